/- Texts of general use, one behind another. -/
import Derived.Test.YtihggkmjalofiaaGreatDoorBufs
import Derived.Test.YtihggkmjalofiaaGreatDoorPaws
import Derived.Test.YtihggkmjalofiaaGreatDoorOps
import Derived.Test.YtihggkmjalofiaaGreatDoorPats
import Derived.Test.YtihggkmjalofiaaGreatDoorPatq
import Derived.Test.YtihggkmjalofiaaGreatDoorPato
import Derived.Test.YtihggkmjalofiaaGreatDoorIdxw
import Derived.Test.YtihggkmjalofiaaGreatDoorVids
import Derived.Test.YtihggkmjalofiaaGreatDoorKinds
import Derived.Test.YtihggkmjalofiaaGreatDoorPatr

/- A patch's bytes, and the patch that bytes tell: plain law; no program in sight. -/
namespace Go.Proofs.YtihggkmjalofiaaGreatDoor

/-- reading: what is told, what is left, and what was wrong -/
abbrev Rd (α : Type) := List UInt8 → Nat → α × List UInt8 × Nat
def bindR {α β : Type} (f : Rd α) (g : α → Rd β) : Rd β := fun l e => g (f l e).1 (f l e).2.1 (f l e).2.2
/-- an error stays -/
def Sticky {α : Type} (f : Rd α) : Prop := ∀ l e, e ≠ 0 → (f l e).2.2 = e
/-- it reads just these bytes, and not fewer -/
structure Reads {α : Type} (f : Rd α) (a : α) (bs : List UInt8) : Prop where
  all : ∀ rest, f (bs ++ rest) 0 = (a, rest, 0)
  cut : ∀ m, m < bs.length → (f (bs.take m) 0).2.2 = 2
/-- what is told had these bytes -/
def Told1 {α : Type} (f : Rd α) (enc : α → List UInt8) : Prop := ∀ l e a l', f l e = (a, l', 0) → e = 0 ∧ l = enc a ++ l'
theorem Sticky.bind {α β : Type} {f : Rd α} {g : α → Rd β} (hf : Sticky f) (hg : ∀ a, Sticky (g a)) : Sticky (bindR f g) := fun l e h => by
  unfold bindR
  rw [hg _ _ _ (by rw [hf l e h]; exact h), hf l e h]
theorem Reads.bind {α β : Type} {f : Rd α} {g : α → Rd β} {a : α} {b : β} {bs cs : List UInt8} (hf : Reads f a bs) (hg : Reads (g a) b cs) (hs : ∀ a, Sticky (g a)) : Reads (bindR f g) b (bs ++ cs) := by
  refine ⟨fun rest => ?_, fun m hm => ?_⟩
  · unfold bindR
    rw [List.append_assoc, hf.all]
    exact hg.all rest
  · unfold bindR
    rcases Nat.lt_or_ge m bs.length with h | h
    · rw [List.take_append_of_le_length (by omega)]
      have h2 := hf.cut m h
      rw [hs _ _ _ (by rw [h2]; decide), h2]
    · rw [List.take_append, List.take_of_length_le h, hf.all]
      exact hg.cut _ (by rw [List.length_append] at hm; omega)
theorem Told1.bind {α β : Type} {f : Rd α} {g : α → Rd β} {ea : α → List UInt8} {eb : β → List UInt8} {es : α → β → List UInt8} (hf : Told1 f ea) (hg : ∀ a l e b l', g a l e = (b, l', 0) → e = 0 ∧ l = es a b ++ l' ∧ ea a ++ es a b = eb b) : Told1 (bindR f g) eb := fun l e b l' h => by
  unfold bindR at h
  obtain ⟨h1, h2, h3⟩ := hg _ _ _ _ _ h
  obtain ⟨h4, h5⟩ := hf l e (f l e).1 (f l e).2.1 (by rw [← h1])
  refine ⟨h4, ?_⟩
  rw [h5, h2, ← List.append_assoc, h3]
/-- a vertex as a number, and back -/
def packN (v : VidV) : Nat := v.1.1.val * 16777216 + v.1.2.val * 256 + v.2.val
theorem packN_lt (v : VidV) : packN v < 4294967296 := by
  have h1 := v.1.1.isLt
  have h2 := v.1.2.isLt
  have h3 := v.2.isLt
  unfold packN
  omega
/-- an operation's bytes -/
def namedK (k : Nat) : Bool := decide (k = 2 ∨ k = 3)
def opBytes (o : OpV) : List UInt8 := UInt8.ofNat o.1.val :: ((refsO o).flatMap (fun v => vbytes (packN v)) ++ if namedK o.1.val = true then vbytes o.2.2.2.size ++ o.2.2.2.data.toList else [])
def patBytes (p : PatV) : List UInt8 := UInt8.ofNat p.1.1.val :: (vbytes p.1.2.val ++ (vbytes p.2.2.length ++ p.2.2.flatMap opBytes))
/-- an operation whose bytes tell it -/
def opPlain (o : OpV) : Prop := o.1.val ≤ 5 ∧ (o.1.val ≠ 4 → o.2.2.1 = vid0) ∧ (refsO o = [] → o.2.1 = vid0) ∧ (namedK o.1.val = false → o.2.2.2.data.toList = []) ∧ o.2.2.2.size ≤ 60
theorem veq_zero {v : VidV} (h : veqV (oldV v) ⟨0, 0, 0⟩ = true) : v = vid0 := by
  unfold veqV oldV at h
  simp only [Bool.and_eq_true, decide_eq_true_eq] at h
  refine Prod.ext (Prod.ext (Fin.ext ?_) (Fin.ext ?_)) (Fin.ext ?_)
  · show v.1.1.val = 0; omega
  · show v.1.2.val = 0; omega
  · show v.2.val = 0; omega
theorem empty_list {t : ByteArray} (h : t.toList.isEmpty = true) : t.data.toList = [] ∧ t.size = 0 := by
  rw [Lib.toList_data] at h
  have h1 : t.data.toList = [] := List.isEmpty_iff.1 h
  refine ⟨h1, ?_⟩
  have e : t.size = t.data.toList.length := rfl
  rw [e, h1]; rfl
theorem plain_of {id : PidV} {i : Int} {o : OpV} (h : goodO id i o = true) : opPlain o := by
  unfold goodO opGood at h
  rw [Bool.and_eq_true] at h
  have h2 := h.2
  unfold tailOk at h2
  unfold opPlain
  split at h2
  · rename_i hk
    simp only [Bool.and_eq_true] at h2
    obtain ⟨e1, e2⟩ := empty_list h2.2.2
    exact ⟨by omega, fun _ => veq_zero h2.1, fun _ => veq_zero h2.2.1, fun _ => e1, by omega⟩
  · split at h2
    · rename_i hk
      simp only [Bool.and_eq_true] at h2
      have hk2 : o.1.val = 2 := by omega
      have hn := h2.2
      unfold nameB at hn
      simp only [Bool.and_eq_true, decide_eq_true_eq] at hn
      refine ⟨by omega, fun _ => veq_zero h2.1, fun h => ?_, fun h => ?_, ?_⟩
      · unfold refsO at h; rw [if_pos (by omega)] at h; cases h
      · unfold namedK at h; rw [hk2] at h; cases h
      · have e : o.2.2.2.size = o.2.2.2.data.toList.length := rfl
        omega
    · split at h2
      · rename_i hk
        simp only [Bool.and_eq_true] at h2
        have hk3 : o.1.val = 3 := by omega
        have hn := h2.2
        unfold lineB at hn
        simp only [Bool.and_eq_true, decide_eq_true_eq] at hn
        refine ⟨by omega, fun _ => veq_zero h2.1, fun h => ?_, fun h => ?_, ?_⟩
        · unfold refsO at h; rw [if_pos (by omega)] at h; cases h
        · unfold namedK at h; rw [hk3] at h; cases h
        · have e : o.2.2.2.size = o.2.2.2.data.toList.length := rfl
          omega
      · split at h2
        · rename_i hk
          simp only [Bool.and_eq_true] at h2
          have hk4 : o.1.val = 4 := by omega
          obtain ⟨e1, e2⟩ := empty_list h2.2
          refine ⟨by omega, fun h => absurd hk4 h, fun h => ?_, fun _ => e1, by omega⟩
          unfold refsO at h; rw [if_neg (by omega), if_pos hk4] at h; cases h
        · split at h2
          · rename_i hk
            simp only [Bool.and_eq_true] at h2
            have hk5 : o.1.val = 5 := by omega
            obtain ⟨e1, e2⟩ := empty_list h2.2.2
            refine ⟨by omega, fun _ => veq_zero h2.1, fun h => ?_, fun _ => e1, by omega⟩
            unfold refsO at h; rw [if_pos (by omega)] at h; cases h
          · cases h2
theorem pat_plain {p : PatV} (h : patB p = true) : ∀ o ∈ p.2.2, opPlain o := fun o ho => by
  unfold patB at h
  simp only [Bool.and_eq_true] at h
  obtain ⟨k, hk, rfl⟩ := List.getElem_of_mem ho
  have h1 := onesB_get h.2.2.2.2 hk (List.getElem?_eq_getElem hk)
  unfold oneR at h1
  rw [Bool.and_eq_true] at h1
  exact plain_of h1.1
theorem patB_len200 {p : PatV} (h : patB p = true) : p.2.2.length ≤ 200 := by
  unfold patB at h
  simp only [Bool.and_eq_true, decide_eq_true_eq] at h
  exact h.2.2.1
theorem opBytes_len (o : OpV) (h : opPlain o) : (opBytes o).length ≤ 72 := by
  obtain ⟨_, _, _, h1, h2⟩ := h
  have hv : ∀ v : VidV, (vbytes (packN v)).length ≤ 5 := fun v => vbytes_len 4 _ (by have := packN_lt v; omega)
  have hr : ((refsO o).flatMap fun v => vbytes (packN v)).length ≤ 10 := by
    unfold refsO
    split
    · have := hv o.2.1; simp; omega
    · split
      · have := hv o.2.1; have := hv o.2.2.1; simp; omega
      · simp
  have hs : (vbytes o.2.2.2.size).length ≤ 1 := vbytes_len 0 _ (by omega)
  have e : o.2.2.2.data.toList.length = o.2.2.2.size := rfl
  unfold opBytes
  rw [List.length_cons, List.length_append]
  split
  · rw [List.length_append]; omega
  · rw [List.length_nil]; omega
/-- a patch's bytes are not too long -/
theorem patBytes_len {p : PatV} (h : patB p = true) : (patBytes p).length ≤ 20000 := by
  have hl := patB_len200 h
  have hs : (vbytes p.1.2.val).length ≤ 3 := vbytes_len 2 _ (by have := p.1.2.isLt; omega)
  have hn : (vbytes p.2.2.length).length ≤ 2 := vbytes_len 1 _ (by omega)
  have ho : ∀ os : List OpV, (∀ o ∈ os, opPlain o) → (os.flatMap opBytes).length ≤ 72 * os.length := by
    intro os
    induction os with
    | nil => intro _; simp
    | cons o os ih =>
      intro hh
      rw [List.flatMap_cons, List.length_append, List.length_cons]
      have := opBytes_len o (hh o (by simp))
      have := ih fun x hx => hh x (by simp [hx])
      omega
  have := ho p.2.2 (pat_plain h)
  unfold patBytes
  simp only [List.length_cons, List.length_append]
  omega
end Go.Proofs.YtihggkmjalofiaaGreatDoor

/- A patch is encoded: walked. -/
namespace Go.Proofs.YtihggkmjalofiaaGreatDoor
open Go.RowKit

set_option maxRecDepth 100000 in
set_option maxHeartbeats 1000000 in
theorem named19_any (k : Nat) (w : World) : Calls Tryz.prog 158 #[.int .u8 (k : Int)] w (Ret w (.bool (namedK k))) := by
  by_cases h2 : k = 2
  · subst h2
    go_enter Tryz.func158, Tryz.ntmps158
    go_wp2
    go_ret
    exact ⟨rfl, rfl⟩
  · have z2 : (((k : Nat) : Int) == 2) = false := by rw [beq_eq_false_iff_ne]; omega
    by_cases h3 : k = 3
    · subst h3
      go_enter Tryz.func158, Tryz.ntmps158
      go_wp2
      go_ret
      exact ⟨rfl, rfl⟩
    · have z3 : (((k : Nat) : Int) == 3) = false := by rw [beq_eq_false_iff_ne]; omega
      have E : Hid (namedK k = false) := by unfold namedK; exact decide_eq_false (by omega)
      go_enter Tryz.func158, Tryz.ntmps158
      go_wp2
      go_ret
      exact ⟨by rw [E.out]; rfl, rfl⟩
theorem key_pack (v : VidV) : keyV v = ((packN v : Nat) : Int) := by
  unfold keyV packN keyP packV
  omega
theorem allocW (w : World) : (Instr.alloc 139 true (.tuple #[])).run Tryz.prog w = .ok (.pointer (some ⟨w.heap.size, 0, none⟩)) (w.alloc (.cells #[.slice none 0 0] 139)) := by kernel_rfl
theorem wr_new (w : World) : WrAt (w.alloc (.cells #[.slice none 0 0] 139)) (fun q => q = w.heap.size) w.heap.size [] :=
  ⟨⟨.slice none 0 0, Blk.new _ _ _, World.ownsRow_nil _ _ _ _, fun k e => by cases e⟩, rfl, fun q e => by subst e; simp⟩
/-- a writer that lies from block B on -/
structure WrB (w : World) (B g : Nat) (l : List UInt8) (N : Nat → Prop) : Prop where
  ex : ∃ F, WrAt w F g l ∧ (∀ q, F q → B ≤ q) ∧ ∀ q, F q → ¬ N q
theorem WrB.ext {w w' : World} {B g : Nat} {l : List UInt8} {N : Nat → Prop} (h : WrB w B g l N) (hb : Below w.heap.size w w') : WrB w' B g l N := by
  obtain ⟨F, h1, h2, h3⟩ := h.ex
  exact ⟨F, h1.ext hb, h2, h3⟩
/-- what is new is none of its blocks -/
theorem WrB.away {w w' : World} {B g : Nat} {l : List UInt8} {N M : Nat → Prop} (h : WrB w B g l N) (hb : Below w.heap.size w w') (hM : ∀ q, M q → N q ∨ w.heap.size ≤ q) : WrB w' B g l M := by
  obtain ⟨F, h1, h2, h3⟩ := h.ex
  exact ⟨F, h1.ext hb, h2, fun q e m => (hM q m).elim (h3 q e) fun e2 => by have := h1.lt q e; omega⟩
theorem WrB.step {w w' : World} {B g : Nat} {l : List UInt8} {N : Nat → Prop} {F : Nat → Prop} (hB : ∀ q, F q → B ≤ q) (hN : ∀ q, F q → ¬ N q) (hBw : B ≤ w.heap.size) (hNw : ∀ q, N q → q < w.heap.size) (hk : Kept F w w') (hw : ∃ F', WrAt w' F' g l ∧ ∀ q, F' q → F q ∨ w.heap.size ≤ q) :
    WrB w' B g l N ∧ Below B w w' ∧ Stay N w w' := by
  obtain ⟨F', h1, h2⟩ := hw
  refine ⟨⟨F', h1, fun q e => (h2 q e).elim (hB q) fun e => by omega, fun q e m => (h2 q e).elim (fun e => hN q e m) fun e2 => by have := hNw q m; omega⟩, hk.below hB hBw, hk.stay fun k _ h3 h4 => hN k h4 h3⟩
theorem byte_sl (w : World) (k : Nat) (hk : k < 256) : Sl (w.alloc (.cells #[.int .u8 (k : Int)] 5)) (w.alloc (.cells #[.int .u8 (k : Int)] 5)).heap.size 1 (some ⟨w.heap.size, 0, none⟩) 1 (encB [UInt8.ofNat k]) :=
  sl_fresh w _ 5 1 1 (encB [UInt8.ofNat k]) (by rw [encB_len]; rfl) (by
    have e : encB [UInt8.ofNat k] = [.int .u8 (k : Int)] := by
      show enc1 _ ++ [] = _
      rw [enc1_nat hk, List.append_nil]
    rw [e])
theorem u64_sl (w : World) (ns : List Nat) (cs : Array Value) (h : cs = (encU ns).toArray) : Sl (w.alloc (.cells cs 76)) (w.alloc (.cells cs 76)).heap.size 1 (some ⟨w.heap.size, 0, none⟩) ns.length (encU ns) :=
  sl_fresh w _ 76 1 ns.length (encU ns) (by unfold encU; rw [List.length_map, Nat.mul_one]) (by rw [h])
theorem pack_len (vs : List VidV) : (vs.flatMap fun v => vbytes (packN v)).length ≤ 5 * vs.length := by
  induction vs with
  | nil => simp
  | cons v vs ih =>
    rw [List.flatMap_cons, List.length_append, List.length_cons]
    have : (vbytes (packN v)).length ≤ 5 := vbytes_len 4 _ (by have := packN_lt v; omega)
    omega
theorem ops_len (os : List OpV) (h : ∀ o ∈ os, opPlain o) : (os.flatMap opBytes).length ≤ 72 * os.length := by
  induction os with
  | nil => simp
  | cons o os ih =>
    rw [List.flatMap_cons, List.length_append, List.length_cons]
    have := opBytes_len o (h o (by simp))
    have := ih fun x hx => h x (by simp [hx])
    omega
theorem flat_snocF {α : Type} {f : α → List UInt8} {l : List α} {k : Nat} {x : α} (h : l[k]? = some x) : (l.take (k + 1)).flatMap f = (l.take k).flatMap f ++ f x := by
  rw [List.take_add_one, h, List.flatMap_append]
  simp
theorem stay_trans {G : Nat → Prop} {a b c : World} (h : Stay G a b) (k : Stay G b c) : Stay G a c :=
  ⟨Nat.le_trans h.1 k.1, fun i hi hg => (k.2 i (Nat.lt_of_lt_of_le hi h.1) hg).trans (h.2 i hi hg)⟩
def WbRet (w : World) (B g : Nat) (l : List UInt8) (N : Nat → Prop) (e : Ending) (w' : World) : Prop := e = .returned (.tuple #[]) ∧ WrB w' B g l N ∧ Below B w w' ∧ Stay N w w'
theorem wb_of {w w1 : World} {B g : Nat} {l : List UInt8} {N F : Nat → Prop} {e : Ending} {w' : World} (hb : Below w.heap.size w w1) (hB : ∀ q, F q → B ≤ q) (hN : ∀ q, F q → ¬ N q) (hBw : B ≤ w.heap.size) (hNw : ∀ q, N q → q < w.heap.size) (h : WrRet w1 F g l e w') : WbRet w B g l N e w' := by
  obtain ⟨h1, h2, h3⟩ := h
  have hz := hb.size
  obtain ⟨a, b, c⟩ := WrB.step hB hN (by omega) (fun q m => by have := hNw q m; omega) h2 h3
  exact ⟨h1, a, (hb.mono hBw).trans b, ⟨by have := c.1; omega, fun k hk hm => (c.2 k (by omega) hm).trans (hb.block k hk)⟩⟩
theorem wbByte {w : World} {B g : Nat} {l : List UInt8} {N : Nat → Prop} (h : WrB w B g l N) (hBw : B ≤ w.heap.size) (hNw : ∀ q, N q → q < w.heap.size) (k : Nat) (hk : k < 256) (hl : l.length ≤ 100000) :
    Calls Tryz.prog 156 #[.pointer (some ⟨g, 0, none⟩), .slice (some ⟨w.heap.size, 0, none⟩) 1 1] (w.alloc (.cells #[.int .u8 (k : Int)] 5)) (WbRet w B g (l ++ [UInt8.ofNat k]) N) := by
  have hb : Below w.heap.size w (w.alloc (.cells #[.int .u8 (k : Int)] 5)) := below_new _ _
  obtain ⟨F, h1, h2, h3⟩ := h.ex
  exact (wrByte_any (h1.ext hb) [UInt8.ofNat k] _ 1 1 _ (byte_sl w k hk) rfl (by omega)).mono fun _ _ h => wb_of hb h2 h3 hBw hNw h
theorem wbNum {w : World} {B g : Nat} {l : List UInt8} {N : Nat → Prop} (h : WrB w B g l N) (hBw : B ≤ w.heap.size) (hNw : ∀ q, N q → q < w.heap.size) (ns : List Nat) (hn : ∀ n ∈ ns, n < 18446744073709551616) (hm : ns.length ≤ 1000) (hl : l.length ≤ 100000) (cs : Array Value) (hc : cs = (encU ns).toArray) :
    Calls Tryz.prog 70 #[.pointer (some ⟨g, 0, none⟩), .slice (some ⟨w.heap.size, 0, none⟩) ns.length ns.length] (w.alloc (.cells cs 76)) (WbRet w B g (l ++ ns.flatMap vbytes) N) := by
  have hb : Below w.heap.size w (w.alloc (.cells cs 76)) := below_new _ _
  obtain ⟨F, h1, h2, h3⟩ := h.ex
  exact (wrNum_any (h1.ext hb) ns hn _ ns.length _ (u64_sl w ns cs hc) (fun b o e hf => by injection e with e; injection e with e _ _; have := h1.lt b hf; omega) rfl (by omega) hm).mono fun _ _ h => wb_of hb h2 h3 hBw hNw h
theorem wbText {w : World} {B g : Nat} {l : List UInt8} {N : Nat → Prop} (h : WrB w B g l N) (hBw : B ≤ w.heap.size) (hNw : ∀ q, N q → q < w.heap.size) (s : ByteArray) (hs : s.size ≤ 1000) (hl : l.length ≤ 100000) :
    Calls Tryz.prog 75 #[.pointer (some ⟨g, 0, none⟩), .string s] w (WbRet w B g (l ++ (vbytes s.size ++ s.data.toList)) N) := by
  obtain ⟨F, h1, h2, h3⟩ := h.ex
  exact (wrText_any h1 s (by omega) hs).mono fun _ _ h => wb_of (Below.refl _ _) h2 h3 hBw hNw h
def EncRet (w : World) (p : PatV) (e : Ending) (w' : World) : Prop :=
  (patB p = true → ∃ v, e = .returned (.tuple #[v, .int .i64 0]) ∧ w'.ownsRow w.heap.size 5 1 v (patBytes p).length (encB (patBytes p)) ∧ Below w.heap.size w w') ∧
  (patB p = false → e = .returned (.tuple #[.slice none 0 0, .int .i64 1]) ∧ Below w.heap.size w w')
set_option maxRecDepth 100000 in
set_option maxHeartbeats 8000000 in
theorem encode19_any (p : PatV) (w : World) (cs : List Value) (hp : PatAt w cs p) : Calls Tryz.prog 81 #[.agg cs.toArray] w (EncRet w p) := by
  have HPAT := Lib.hid hp
  obtain ⟨⟨A, c, A', c', rfl, _, O0⟩, _, _⟩ := hp
  have K0 : Hid (Blk (w.alloc (.cells (patC p.1 A p.2.1.length c A' p.2.2.length c').toArray 31)) w.heap.size 31 (patC p.1 A p.2.1.length c A' p.2.2.length c').toArray) := Blk.new _ _ _
  have B0 : Hid (Below w.heap.size w (w.alloc (.cells (patC p.1 A p.2.1.length c A' p.2.2.length c').toArray 31))) := below_new _ _
  have OA := Lib.hid (O0.ext B0.out)
  have HG := Lib.hid (good18_any p _ _ (HPAT.out.ext B0.out))
  clear HPAT O0
  go_enter Tryz.func81, Tryz.ntmps81
  go_upto_region 1 with fail
  generalize (w.alloc (.cells (patC p.1 A p.2.1.length c A' p.2.2.length c').toArray 31)) = w2 at *
  obtain ⟨gp, hgp⟩ : ∃ gp, gp = w.heap.size := ⟨_, rfl⟩
  rw [← hgp] at K0 ⊢
  replace hgp := Lib.hid hgp
  cases hb : patB p
  · rw [hb] at HG
    go_wp2_with (refine wpList_load_row rfl 31 _ (by rfl) gp (by rfl) _ _ _ _ K0.out underPat rfl infoPat ?_)
    refine HG.out.mono ?_
    rintro e w3 ⟨rfl, b3⟩
    have B3 := Lib.hid (B0.out.trans (b3.mono B0.out.size))
    clear b3 HG
    go_wp2
    refine bodyPost_ret (v := .tuple #[.slice none 0 0, .int .i64 1]) ?_ rfl ⟨fun h => (by rw [hb] at h; cases h), fun _ => ⟨rfl, B3.out⟩⟩
    simp [results, Tryz.results81, go_sem]
  · rw [hb] at HG
    have PP := Lib.hid (pat_plain hb)
    have hl200 := patB_len200 hb
    go_wp2_with (refine wpList_load_row rfl 31 _ (by rfl) gp (by rfl) _ _ _ _ K0.out underPat rfl infoPat ?_)
    refine HG.out.mono ?_
    rintro e w3 ⟨rfl, b3⟩
    have B3 := Lib.hid (B0.out.trans (b3.mono B0.out.size))
    have KP := Lib.hid (K0.out.ext b3)
    have OA := Lib.hid (OA.out.ext b3)
    clear b3 HG B0 K0
    have W0 : Hid (WrB (w3.alloc (.cells #[.slice none 0 0] 139)) w3.heap.size w3.heap.size [] (fun _ => False)) := ⟨⟨_, wr_new w3, fun q e => by omega, fun q e h => h⟩⟩
    have BW : Hid (Below w3.heap.size w3 (w3.alloc (.cells #[.slice none 0 0] 139))) := below_new _ _
    go_upto_region 4 with (refine wpList_alloced (allocW _) ?_)
    generalize (w3.alloc (.cells #[.slice none 0 0] 139)) = w4 at *
    obtain ⟨gw, hgw⟩ : ∃ gw, gw = w3.heap.size := ⟨_, rfl⟩
    rw [← hgw] at W0 BW ⊢
    replace hgw := Lib.hid hgw
    have KP4 := Lib.hid (KP.out.below BW.out (by rw [hgw.out]; exact KP.out.lt))
    have y0 : w4.cell? ⟨gp, 0, none⟩ = some (.int .u8 ((p.1.1.val : Nat) : Int)) := KP4.out.cell 0
    have ha := p.1.1.isLt
    have hs := p.1.2.isLt
    have bs4 : Hid (gw ≤ w4.heap.size) := by have := BW.out.size; have := hgw.out; rw [Hid]; omega
    go_wp2_with fail
    refine (wbByte W0.out bs4.out (fun _ h => h.elim) p.1.1.val ha (by simp)).mono ?_
    rintro e w5 ⟨rfl, W5, b5, _⟩
    have W5 := Lib.hid W5
    have B5 : Hid (Below gw w3 w5) := BW.out.trans b5
    clear b5 BW W0 KP4 y0
    have KP5 := Lib.hid (KP.out.below B5.out (by rw [hgw.out]; exact KP.out.lt))
    have y1 : w5.cell? ⟨gp, 1, none⟩ = some (.int .u16 ((p.1.2.val : Nat) : Int)) := KP5.out.cell 1
    have y3 : w5.cell? ⟨gp, 3, none⟩ = some (.slice A' p.2.2.length c') := KP5.out.cell 3
    have bs5 : Hid (gw ≤ w5.heap.size) := by have := B5.out.size; have := hgw.out; rw [Hid]; omega
    go_wp2_with fail
    refine (wbNum W5.out bs5.out (fun _ h => h.elim) [p.1.2.val, p.2.2.length] (fun n hn => by simp at hn; omega) (by simp) (by simp) _ rfl).mono ?_
    rintro e w6 ⟨rfl, W6, b6, _⟩
    have W6 := Lib.hid W6
    have B6 : Hid (Below gw w3 w6) := B5.out.trans b6
    clear b6 B5 W5 KP5 y1 y3 bs4 bs5
    obtain ⟨HD, hHD⟩ : ∃ HD, HD = [] ++ [UInt8.ofNat p.1.1.val] ++ [p.1.2.val, p.2.2.length].flatMap vbytes := ⟨_, rfl⟩
    rw [← hHD] at W6
    have hHl : HD.length ≤ 21 := by
      have h1 := flat_vlen [p.1.2.val, p.2.2.length] (fun n hn => by simp at hn; omega)
      rw [hHD, List.length_append, List.nil_append]
      simp only [List.length_cons, List.length_nil] at h1 ⊢
      omega
    replace hHD := Lib.hid hHD
    have KP6 := Lib.hid (KP.out.below B6.out (by rw [hgw.out]; exact KP.out.lt))
    have y3 : w6.cell? ⟨gp, 3, none⟩ = some (.slice A' p.2.2.length c') := KP6.out.cell 3
    clear KP6 KP
    go_wp2_with fail
    go_loopw [30] (fun v wr => ∃ k : Nat, k ≤ p.2.2.length ∧ v = .int .i64 (k : Int) ∧ Hid (WrB wr gw gw (HD ++ (p.2.2.take k).flatMap opBytes) (fun _ => False)) ∧ Hid (Below gw w3 wr)) (fun v _ => p.2.2.length - (intOf v).toNat)
    case atStart => exact ⟨0, by omega, rfl, by rw [List.take_zero, List.flatMap_nil, List.append_nil]; exact W6.out, B6.out⟩
    case round =>
      clear W6 B6 y3
      obtain ⟨k, hk, rfl, WR, B⟩ := hrel
      have hk0 : (0 : Int) ≤ (k : Int) := by omega
      by_cases hlt : k < p.2.2.length
      · have hki : (k : Int) < (p.2.2.length : Int) := by omega
        obtain ⟨b, o, x, rfl, hb3, hx, hr, ok⟩ := OA.out.at_ hlt
        have RX := Lib.hid (rangeAt_below hr B.out (by rw [hgw.out]; exact hb3))
        have PO := Lib.hid (PP.out x (List.mem_of_getElem? hx))
        have FS := Lib.hid (flat_snocF (f := opBytes) hx)
        have hkind := x.1.isLt
        have hTk := PO.out.2.2.2.2
        obtain ⟨L0, hL0⟩ : ∃ L0, L0 = HD ++ (p.2.2.take k).flatMap opBytes := ⟨_, rfl⟩
        have hL0l : L0.length ≤ 20000 := by
          have h1 := ops_len (p.2.2.take k) fun y hy => PP.out y (List.mem_of_mem_take hy)
          rw [List.length_take] at h1
          rw [hL0, List.length_append]
          omega
        rw [← hL0] at WR
        replace hL0 := Lib.hid hL0
        have KZ : Hid (Blk (wr.alloc (.cells #[.int .u8 0, .int .u8 0, .int .u16 0, .int .u8 0, .int .u8 0, .int .u16 0, .int .u8 0, .string ByteArray.empty] 122)) wr.heap.size 122 #[.int .u8 0, .int .u8 0, .int .u16 0, .int .u8 0, .int .u8 0, .int .u16 0, .int .u8 0, .string ByteArray.empty]) := Blk.new _ _ _
        have KO : Hid (Blk ((wr.alloc (.cells #[.int .u8 0, .int .u8 0, .int .u16 0, .int .u8 0, .int .u8 0, .int .u16 0, .int .u8 0, .string ByteArray.empty] 122)).setRow wr.heap.size (encO x).toArray) wr.heap.size 122 (encO x).toArray) := KZ.out.row _
        have BN : Hid (Below wr.heap.size wr ((wr.alloc (.cells #[.int .u8 0, .int .u8 0, .int .u16 0, .int .u8 0, .int .u8 0, .int .u16 0, .int .u8 0, .string ByteArray.empty] 122)).setRow wr.heap.size (encO x).toArray)) := below_setRow (below_new wr _) (Nat.le_refl _) _
        have hgw2 : Hid (gw ≤ wr.heap.size) := by have := B.out.size; have := hgw.out; rw [Hid]; omega
        clear hx hr hb3
        go_upto_region 9 with (first
          | (refine wpList_load_mid rfl 122 _ (by rfl) b (o + k * 8) (by rfl) _ _ RX.out underOp rfl infoOp ?_)
          | (refine wpList_alloced (allocOp _) ?_)
          | (refine wpList_store_row rfl 122 _ _ (by rfl) wr.heap.size (encO x).toArray (by rfl) (by rfl) _ _ KZ.out infoOp rfl (all_oneCell_toArray (encO_one x)) ?_))
        generalize ((wr.alloc (.cells #[.int .u8 0, .int .u8 0, .int .u16 0, .int .u8 0, .int .u8 0, .int .u16 0, .int .u8 0, .string ByteArray.empty] 122)).setRow wr.heap.size (encO x).toArray) = w7 at *
        have W7 : Hid (WrB w7 gw gw L0 (fun q => q = wr.heap.size)) := WR.out.away BN.out fun q e => .inr (by omega)
        have B7 := Lib.hid (B.out.trans (BN.out.mono hgw2.out))
        obtain ⟨go, hgo⟩ : ∃ go, go = wr.heap.size := ⟨_, rfl⟩
        rw [← hgo] at W7 KO hgw2 ⊢
        clear KZ BN WR RX hgo B
        have y0 : w7.cell? ⟨go, 0, none⟩ = some (.int .u8 ((x.1.val : Nat) : Int)) := KO.out.cell 0
        have hs7 : Hid (gw ≤ w7.heap.size) := by have := KO.out.lt; have := hgw2.out; rw [Hid]; omega
        go_wp2_with fail
        refine (wbByte W7.out hs7.out (fun q e => by rw [e]; exact KO.out.lt) x.1.val hkind (by omega)).mono ?_
        rintro e w8 ⟨rfl, W8, b8, st8⟩
        have W8 := Lib.hid W8
        have B8 := Lib.hid (B7.out.trans b8)
        have KO := Lib.hid (KO.out.keep (st8.2 go KO.out.lt rfl))
        clear b8 st8 W7 B7 y0 hs7
        go_wp2_with (refine wpList_load_row rfl 122 _ (by rfl) go (by rfl) _ _ _ _ KO.out underOp rfl infoOp ?_)
        refine (refsW x _).mono ?_
        rintro e w9 ⟨_, rfl, oR, b9⟩
        obtain ⟨AR, cR, rfl, _, slR⟩ := Sl.of_own oR
        have IR := Lib.hid (own_inB oR)
        have SR := Lib.hid slR
        have KO := Lib.hid (KO.out.ext b9)
        have hs8 : Hid (gw ≤ w8.heap.size ∧ w8.heap.size ≤ w9.heap.size) := by have := B8.out.size; have := b9.size; have := hgw.out; rw [Hid]; omega
        have W9 : Hid (WrB w9 gw gw (L0 ++ [UInt8.ofNat x.1.val]) (fun q => q = go ∨ (w8.heap.size ≤ q ∧ q < w9.heap.size))) := W8.out.away b9 fun q e => e.elim .inl fun e => .inr e.1
        have B9 := Lib.hid (B8.out.trans (b9.mono hs8.out.1))
        have hNl : Hid (∀ q, (q = go ∨ (w8.heap.size ≤ q ∧ q < w9.heap.size)) → q < w9.heap.size) := fun q e => e.elim (fun e => by rw [e]; exact KO.out.lt) fun e => e.2
        have hR2 := refsO_le x
        clear oR slR b9 W8 B8
        obtain ⟨vs, hvs⟩ : ∃ vs, vs = refsO x := ⟨_, rfl⟩
        rw [← hvs] at IR SR hR2 ⊢
        replace hvs := Lib.hid hvs
        go_wp2_with fail
        go_loopw [41] (fun v wi => ∃ j : Nat, j ≤ vs.length ∧ v = .int .i64 (j : Int) ∧ Hid (WrB wi gw gw (L0 ++ [UInt8.ofNat x.1.val] ++ (vs.take j).flatMap (fun v => vbytes (packN v))) (fun q => q = go ∨ (w8.heap.size ≤ q ∧ q < w9.heap.size))) ∧ Hid (Below gw w3 wi) ∧ Hid (Stay (fun q => q = go ∨ (w8.heap.size ≤ q ∧ q < w9.heap.size)) w9 wi)) (fun v _ => vs.length - (intOf v).toNat)
        case atStart => exact ⟨0, by omega, rfl, by rw [List.take_zero, List.flatMap_nil, List.append_nil]; exact W9.out, B9.out, ⟨Nat.le_refl _, fun _ _ _ => rfl⟩⟩
        case round =>
          clear W9 B9
          obtain ⟨j, hj, rfl, WI, BI, SI⟩ := hrel
          have hj0 : (0 : Int) ≤ (j : Int) := by omega
          by_cases hjl : j < vs.length
          · have hji : (j : Int) < (vs.length : Int) := by omega
            obtain ⟨bv, ov, v, rfl, hbv, hv, rv⟩ := VidsAt.at_ (⟨rfl, (SR.out.stay (IR.out.mono fun q e => .inr e) (Nat.le_refl _) SI.out).more SI.out.1⟩ : VidsAt wr AR vs.length vs) hjl
            have RV := Lib.hid rv
            have FV := Lib.hid (flat_snocF (f := fun v => vbytes (packN v)) hv)
            have hpk := packN_lt v
            have hp0 : (0 : Int) ≤ ((packN v : Nat) : Int) := by omega
            have hp1 : ((packN v : Nat) : Int) < 4294967296 := by omega
            have hWl : (L0 ++ [UInt8.ofNat x.1.val] ++ (vs.take j).flatMap (fun v => vbytes (packN v))).length ≤ 100000 := by
              have h1 := pack_len (vs.take j)
              rw [List.length_take] at h1
              simp only [List.length_append, List.length_cons, List.length_nil]
              omega
            replace hWl := Lib.hid hWl
            have KZ : Hid (Blk (wr.alloc (.cells #[.int .u8 0, .int .u16 0, .int .u8 0] 120)) wr.heap.size 120 #[.int .u8 0, .int .u16 0, .int .u8 0]) := Blk.new _ _ _
            have KV : Hid (Blk ((wr.alloc (.cells #[.int .u8 0, .int .u16 0, .int .u8 0] 120)).setRow wr.heap.size (encV v).toArray) wr.heap.size 120 (encV v).toArray) := KZ.out.row _
            have BN : Hid (Below wr.heap.size wr ((wr.alloc (.cells #[.int .u8 0, .int .u16 0, .int .u8 0] 120)).setRow wr.heap.size (encV v).toArray)) := below_setRow (below_new wr _) (Nat.le_refl _) _
            have hs10 : Hid (gw ≤ wr.heap.size ∧ w9.heap.size ≤ wr.heap.size) := by have := SI.out.1; have := hs8.out; rw [Hid]; omega
            clear rv hv hbv
            go_upto_region 13 with (first
              | (refine wpList_load_mid rfl 120 _ (by rfl) bv (ov + j * 3) (by rfl) _ _ RV.out underVid rfl infoVid ?_)
              | (refine wpList_alloced (allocVd _) ?_)
              | (refine wpList_store_row rfl 120 _ _ (by rfl) wr.heap.size (encV v).toArray (by rfl) (by rfl) _ _ KZ.out infoVid rfl (all_oneCell_toArray (encV_one v)) ?_))
            generalize ((wr.alloc (.cells #[.int .u8 0, .int .u16 0, .int .u8 0] 120)).setRow wr.heap.size (encV v).toArray) = w10 at *
            have W10 := Lib.hid (WI.out.ext BN.out)
            have B10 := Lib.hid (BI.out.trans (BN.out.mono hs10.out.1))
            have S10 := Lib.hid (stay_trans SI.out (Stay.of_below (G := fun q => q = go ∨ (w8.heap.size ≤ q ∧ q < w9.heap.size)) BN.out))
            have hs11 : Hid (gw ≤ w10.heap.size ∧ w9.heap.size ≤ w10.heap.size) := by have := BN.out.size; have := hs10.out; rw [Hid]; omega
            clear KZ BN WI BI SI RV hs10
            generalize wr.heap.size = gv at *
            go_wp2_with (refine wpList_load_row rfl 120 _ (by rfl) gv (by rfl) _ _ _ _ KV.out underVid rfl infoVid ?_)
            refine ((vpackG v _).mono fun _ _ => RetB.ofG).mono ?_
            rintro e w11 ⟨rfl, b11⟩
            rw [key_pack]
            have W11 := Lib.hid (W10.out.ext b11)
            have B11 := Lib.hid (B10.out.trans (b11.mono hs11.out.1))
            have S11 := Lib.hid (stay_trans S10.out (Stay.of_below (G := fun q => q = go ∨ (w8.heap.size ≤ q ∧ q < w9.heap.size)) b11))
            have hs12 : Hid (gw ≤ w11.heap.size ∧ w9.heap.size ≤ w11.heap.size) := by have := b11.size; have := hs11.out; rw [Hid]; omega
            clear b11 W10 B10 S10 hs11 KV
            go_wp2_with fail
            refine (wbNum W11.out hs12.out.1 (fun q e => Nat.lt_of_lt_of_le (hNl.out q e) hs12.out.2) [packN v] (fun n hn => by simp at hn; omega) (by simp) hWl.out _ rfl).mono ?_
            rintro e w12 ⟨rfl, W12, b12, st12⟩
            have W12 : Hid (WrB w12 gw gw (L0 ++ [UInt8.ofNat x.1.val] ++ (vs.take (j + 1)).flatMap (fun v => vbytes (packN v))) (fun q => q = go ∨ (w8.heap.size ≤ q ∧ q < w9.heap.size))) := by
              rw [Hid, FV.out, ← List.append_assoc]
              simpa using W12
            have B12 := Lib.hid (B11.out.trans b12)
            have S12 := Lib.hid (stay_trans S11.out st12)
            clear b12 st12 W11 B11 S11
            go_wp2_with fail
            go_roundw
            case rel => exact ⟨j + 1, by omega, by go_num, W12.out, B12.out, S12.out⟩
            case measure => simp [intOf]; omega
          · have hji : ¬ (j : Int) < (vs.length : Int) := by omega
            rw [List.take_of_length_le (by omega)] at WI
            have KO2 := Lib.hid (KO.out.keep (SI.out.2 go KO.out.lt (.inl rfl)))
            have y0 : wr.cell? ⟨go, 0, none⟩ = some (.int .u8 ((x.1.val : Nat) : Int)) := KO2.out.cell 0
            have y7 : wr.cell? ⟨go, 7, none⟩ = some (.string x.2.2.2) := KO2.out.cell 7
            have hs13 : Hid (gw ≤ wr.heap.size ∧ w9.heap.size ≤ wr.heap.size) := by have := SI.out.1; have := hs8.out; rw [Hid]; omega
            have hWl : Hid ((L0 ++ [UInt8.ofNat x.1.val] ++ vs.flatMap (fun v => vbytes (packN v))).length ≤ 100000) := by
              have h1 := pack_len vs
              rw [Hid]
              simp only [List.length_append, List.length_cons, List.length_nil]
              omega
            have hE : Hid (HD ++ (p.2.2.take (k + 1)).flatMap opBytes = L0 ++ [UInt8.ofNat x.1.val] ++ vs.flatMap (fun v => vbytes (packN v)) ++ if namedK x.1.val = true then vbytes x.2.2.2.size ++ x.2.2.2.data.toList else []) := by
              rw [Hid, FS.out, ← List.append_assoc, ← hL0.out, hvs.out]
              unfold opBytes
              simp
            cases hn : namedK x.1.val
            · have hE2 : Hid (HD ++ (p.2.2.take (k + 1)).flatMap opBytes = L0 ++ [UInt8.ofNat x.1.val] ++ vs.flatMap (fun v => vbytes (packN v))) := by rw [Hid, hE.out, hn]; simp
              have HM := Lib.hid (named19_any x.1.val wr)
              rw [hn] at HM
              clear hE KO KO2 SR hNl
              go_wp2_with fail
              refine HM.out.mono ?_
              rintro e _ ⟨rfl, rfl⟩
              have WE : Hid (WrB wr gw gw (HD ++ (p.2.2.take (k + 1)).flatMap opBytes) (fun _ => False)) := by rw [Hid, hE2.out]; exact WI.out.away (Below.refl _ _) fun _ h => h.elim
              clear WI
              go_wp2_with fail
              go_roundw
              case rel => exact ⟨k + 1, by omega, by go_num, WE.out, BI.out⟩
              case measure => simp [intOf]; omega
            · have HM := Lib.hid (named19_any x.1.val wr)
              rw [hn] at HM
              have HT := Lib.hid (wbText WI.out hs13.out.1 (fun q e => Nat.lt_of_lt_of_le (hNl.out q e) hs13.out.2) x.2.2.2 (by omega) hWl.out)
              clear KO KO2 SR hNl
              go_wp2_with fail
              refine HM.out.mono ?_
              rintro e _ ⟨rfl, rfl⟩
              go_wp2_with fail
              refine HT.out.mono ?_
              rintro e w14 ⟨rfl, W14, b14, _⟩
              have WE : Hid (WrB w14 gw gw (HD ++ (p.2.2.take (k + 1)).flatMap opBytes) (fun _ => False)) := by rw [Hid, hE.out, hn, if_pos rfl]; exact W14.away (Below.refl _ _) fun _ h => h.elim
              have BE := Lib.hid (BI.out.trans b14)
              clear WI W14 b14 HT
              go_wp2_with fail
              go_roundw
              case rel => exact ⟨k + 1, by omega, by go_num, WE.out, BE.out⟩
              case measure => simp [intOf]; omega
      · have hki : ¬ (k : Int) < (p.2.2.length : Int) := by omega
        rw [List.take_of_length_le (by omega)] at WR
        have hE : Hid (HD ++ p.2.2.flatMap opBytes = patBytes p) := by
          rw [Hid, hHD.out]
          unfold patBytes
          simp
        rw [hE.out] at WR
        have hL := patBytes_len hb
        obtain ⟨F, h1, _, _⟩ := WR.out.ex
        have HBy := Lib.hid (wrBytes_any h1 (by omega))
        have BE := Lib.hid (B3.out.trans (B.out.mono (by have := B3.out.size; have := hgw.out; omega)))
        clear h1 WR B
        go_wp2_with fail
        refine HBy.out.mono ?_
        rintro e w15 ⟨v, rfl, own, b15⟩
        go_wp2
        refine bodyPost_ret (v := .tuple #[v, .int .i64 0]) ?_ rfl ⟨fun _ => ⟨v, rfl, own_rebase own fun q e => Nat.le_trans BE.out.size (own.lt q e).1, BE.out.trans (b15.mono BE.out.size)⟩, fun h => (by rw [hb] at h; cases h)⟩
        simp [results, Tryz.results81, go_sem]
end Go.Proofs.YtihggkmjalofiaaGreatDoor

/- An operation is read: walked. -/
namespace Go.Proofs.YtihggkmjalofiaaGreatDoor
open Go.RowKit

def setV (o : OpV) (j : Nat) (v : VidV) : OpV := if j = 0 then (o.1, v, o.2.2.1, o.2.2.2) else (o.1, o.2.1, v, o.2.2.2)
end Go.Proofs.YtihggkmjalofiaaGreatDoor

/- Bytes are decoded: walked. -/
namespace Go.Proofs.YtihggkmjalofiaaGreatDoor
open Go.RowKit

theorem RdAt.below {w w' : World} {B g e C : Nat} {l : List UInt8} (h : RdAt w B g l e) (hb : Below C w w') (hC : g < C) : RdAt w' B g l e := by
  obtain ⟨A, c, h1, h2, h3, h4⟩ := h.ex
  exact ⟨h.ge, A, c, h1.below hb hC, h2, h3, h4.below hb (by have := h.ge; omega)⟩
end Go.Proofs.YtihggkmjalofiaaGreatDoor

/- The chapter's example of a patch's bytes: walked. -/
namespace Go.Proofs.YtihggkmjalofiaaGreatDoor
open Go.RowKit

theorem own_bytes {w : World} {base n : Nat} {v : Value} {l : List UInt8} (h : w.ownsRow base 5 1 v n (encB l)) (hl : l.length = n) : ∃ A c, v = .slice A n c ∧ BytesAt w A n c l := by
  obtain ⟨A, c, rfl, hc, hs⟩ := Sl.of_own h
  refine ⟨A, c, rfl, hl, hc, ?_, hs⟩
  rcases h.2 with ⟨h1, h2⟩ | ⟨g, cap, cur, h1, _, _, _, hcm, _, _⟩
  · cases h1; unfold maxLen; omega
  · cases h1; exact hcm
def w19o : OpV := (1, vid0, vid0, ByteArray.empty)
def w19p : PatV := ((1, 1), [], [w19o])
theorem w19_ok : patB w19p = true := by kernel_rfl
theorem w19_bytes : patBytes w19p = [1, 1, 1, 1] := by
  have h1 : vbytes 1 = [1] := vbytes_low (by omega)
  have e : patBytes w19p = UInt8.ofNat 1 :: (vbytes 1 ++ (vbytes 1 ++ [w19o].flatMap opBytes)) := rfl
  rw [e, h1]
  rfl
theorem op19_at (w : World) : OpsAt (w.alloc (.cells #[.int .u8 1, .int .u8 0, .int .u16 0, .int .u8 0, .int .u8 0, .int .u16 0, .int .u8 0, .string ⟨#[]⟩] 122)) (some ⟨w.heap.size, 0, none⟩) 1 [w19o] :=
  ⟨rfl, sl_fresh w _ 122 8 1 _ rfl rfl, fun o ho => by rw [List.mem_singleton.1 ho]; unfold OpV.ok maxLen; decide⟩
end Go.Proofs.YtihggkmjalofiaaGreatDoor

/- What is written reads back: walked. -/
namespace Go.Proofs.YtihggkmjalofiaaGreatDoor
open Go.RowKit

theorem byte_of : ∀ {cs : List Value}, FlatOk [.int .u8] cs → ∃ b : UInt8, cs = enc1 b
  | [_], ⟨⟨a, rfl, ha⟩, _⟩ => by
    obtain ⟨h0, h1⟩ := u8_of ha
    obtain ⟨k, rfl⟩ := Int.eq_ofNat_of_zero_le h0
    refine ⟨UInt8.ofNat k, ?_⟩
    unfold enc1
    rw [UInt8.toNat_ofNat', Nat.mod_eq_of_lt (by omega)]
theorem RowsAt.bytes {w : World} {A : Option Addr} {n c : Nat} {rows : List (List Value)} (h : RowsAt [.int .u8] w A n c rows) : ∃ bs, BytesAt w A n c bs := by
  obtain ⟨bs, hz, _⟩ := rows_map enc1 (fun _ => True) rows (fun r hr => by
    obtain ⟨b, hb⟩ := byte_of (h.ok r hr)
    exact ⟨b, hb, trivial⟩)
  have hsl := h.sl
  rw [hz, ← List.flatMap_def] at hsl
  exact ⟨bs, ⟨by rw [← h.len, hz]; simp, h.le, h.cap, hsl⟩⟩
end Go.Proofs.YtihggkmjalofiaaGreatDoor

/- Bytes that are cut short, and bytes with one more: walked. -/
namespace Go.Proofs.YtihggkmjalofiaaGreatDoor
open Go.RowKit

end Go.Proofs.YtihggkmjalofiaaGreatDoor
