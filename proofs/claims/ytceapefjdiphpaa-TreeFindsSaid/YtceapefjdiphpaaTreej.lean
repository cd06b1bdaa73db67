/- Trees: a tree as a text, by the program. -/
import Derived.Test.YtceapefjdiphpaaTreei
namespace Go.Proofs.Ytceapefjdiphpaa
open Go.RowKit

/-- a text of bytes -/
def bsT (s : ByteArray) : List UInt8 := s.data.toList
def oneT (ah s : ByteArray) : List UInt8 := bsT ah ++ (bsT s ++ [10])
def putT (ah : ByteArray) (l : List ByteArray) : List UInt8 := l.flatMap (oneT ah)
def ah0 : ByteArray := ⟨#[61, 32]⟩
def ah1 : ByteArray := ⟨#[124, 32]⟩
def ah2 : ByteArray := ⟨#[58]⟩
def fileT (f : FileV) : List UInt8 := putT ah0 [f.name] ++ (putT ah1 f.also ++ putT ah2 f.lines)
def textT (fs : List FileV) : List UInt8 := fs.flatMap fileT
theorem oneC_eq (ah s : ByteArray) : oneC ah s = Lib.byteCells (oneT ah s) := by
  unfold oneC oneT bsT
  rw [Lib.byteCells_append, Lib.byteCells_append, Lib.strCells_eq, Lib.strCells_eq]; rfl
theorem putC_eq (ah : ByteArray) (l : List ByteArray) : putC ah l = Lib.byteCells (putT ah l) := by
  unfold putC putT
  induction l with
  | nil => rfl
  | cons s l ih => rw [List.flatMap_cons, List.flatMap_cons, Lib.byteCells_append, ih, oneC_eq]
theorem oneT_len (ah s : ByteArray) : (oneT ah s).length = ah.size + s.size + 1 := by
  unfold oneT bsT
  simp only [List.length_append, List.length_cons, List.length_nil, Array.length_toList]
  show ah.data.size + (s.data.size + 1) = _
  have h1 : ah.data.size = ah.size := rfl
  have h2 : s.data.size = s.size := rfl
  omega
theorem putT_len (ah : ByteArray) (l : List ByteArray) (hz : ∀ s ∈ l, s.size ≤ 200) (ha : ah.size ≤ 2) : (putT ah l).length ≤ l.length * 203 := by
  unfold putT
  induction l with
  | nil => simp
  | cons s l ih =>
    rw [List.flatMap_cons, List.length_append, oneT_len, List.length_cons]
    have := ih (fun t ht => hz t (by simp [ht]))
    have := hz s (by simp)
    omega
theorem fileT_len {f : FileV} (h : FewF f) : (fileT f).length ≤ 30000 := by
  unfold fileT
  rw [List.length_append, List.length_append]
  have h0 := putT_len ah0 [f.name] (fun s hs => by rw [List.mem_singleton] at hs; subst hs; exact h.name) (by decide)
  have h1 := putT_len ah1 f.also h.also (by decide)
  have h2 := putT_len ah2 f.lines h.lines (by decide)
  have := h.al
  have := h.ll
  simp only [List.length_cons, List.length_nil] at h0
  omega
set_option maxRecDepth 100000 in
theorem textT_len {fs : List FileV} (h : FewP fs) (k : Nat) : (textT (fs.take k)).length ≤ k * 30000 := by
  induction k with
  | zero => simp [textT]
  | succ k ih =>
    by_cases hk : k < fs.length
    · unfold textT at *
      rw [List.take_succ_eq_append_getElem hk, List.flatMap_append, List.length_append]
      have := fileT_len (h.ok _ (List.getElem_mem hk))
      simp only [List.flatMap_cons, List.flatMap_nil, List.append_nil]
      omega
    · have e : fs.take (k + 1) = fs.take k := by rw [List.take_of_length_le (by omega), List.take_of_length_le (by omega)]
      rw [e]; omega
theorem textT_succ {fs : List FileV} {k : Nat} (hk : k < fs.length) : textT (fs.take (k + 1)) = textT (fs.take k) ++ fileT fs[k] := by
  unfold textT; rw [List.take_succ_eq_append_getElem hk, List.flatMap_append]; simp

theorem isB_alloc {B b : Nat} {bs : List Value} {w : World} (h : IsB B b bs w) (o : Obj) : IsB B b bs (w.alloc o) := by
  rcases h with h | h
  · have hlt := h.lt
    obtain ⟨hB, v, hb, hown, hne⟩ := h
    exact .inl ⟨hB, v, (Below.heap_alloc w o b hlt).trans hb, hown.alloc o, hne⟩
  · have hlt := h.lt
    obtain ⟨hB, v, hb, hown, hne⟩ := h
    exact .inr ⟨hB, v, (Below.heap_alloc w o b hlt).trans hb, hown.alloc o, hne⟩
theorem stay_one {w w' : World} {g : Nat} {s : ByteArray} (h : Blk w g 9 #[.string s]) (hs : StayB w w') : Sl w' w'.heap.size 1 (some ⟨g, 0, none⟩) 1 (strsC [s]) := by
  have h2 := hs g _ _ h (by decide) (by decide)
  refine ⟨rfl, fun _ => ⟨g, 0, rfl, h2.lt, fun j hj => ?_⟩⟩
  have hj0 : j = 0 := by omega
  subst hj0
  rw [h2.cell]; rfl

set_option maxRecDepth 100000 in
set_option maxHeartbeats 4000000 in
theorem text_any (fs : List FileV) (w : World) (A : Option Addr) (n c : Nat) (hn : fs.length = n) (hf : FewP fs) (h : TreeOk w w.heap.size A fs) :
    Calls Try.prog 47 #[.slice A n c] w (RetB w (.string ⟨(textT fs).toArray⟩)) := by
  have HL := Lib.hid hn
  have H := Lib.hid h
  have HF := Lib.hid hf
  have hm : n ≤ 40 := by rw [← hn]; exact hf.len
  have B0 : Hid (Below w.heap.size w (w.alloc (.cells #[.pointer none, .slice none 0 0] 84))) := below_new _ _
  have I0 : Hid (IsB w.heap.size w.heap.size [] (w.alloc (.cells #[.pointer none, .slice none 0 0] 84))) := Lib.fresh_isBuilder _ _ _
  clear h hn hf
  go_enter Try.func47, Try.ntmps47
  go_wp2_with fail
  go_loopw [10] (fun i wr => ∃ k : Nat, k ≤ n ∧ i = .int .i64 k ∧ Hid (IsB w.heap.size w.heap.size (Lib.byteCells (textT (fs.take k))) wr) ∧ Hid (Below w.heap.size w wr)) (fun i _ => n - (intOf i).toNat)
  case atStart => exact ⟨0, by omega, rfl, by simpa [textT, Hid, Lib.byteCells] using I0.out, B0.out⟩
  case round =>
    clear I0 B0
    obtain ⟨k, hk, rfl, I, B⟩ := hrel
    by_cases hlt : k < n
    · obtain ⟨b, o, rfl, hb, F1⟩ := H.out.at_ (k := k) (by rw [HL.out]; exact hlt)
      have hmem := List.getElem_mem (show k < fs.length by rw [HL.out]; exact hlt)
      have G := Lib.hid (H.out.ok _ hmem)
      have FW := Lib.hid (HF.out.ok _ hmem)
      have P1 : Hid (textT (fs.take (k + 1)) = textT (fs.take k) ++ fileT (fs[k]'(by rw [HL.out]; exact hlt))) := textT_succ _
      generalize fs[k]'(by rw [HL.out]; exact hlt) = f at *
      clear hmem
      obtain ⟨c0, c1, c2⟩ := fileAt_of (rangeAt_below F1 B.out hb)
      have hlk : (k : Int) < (n : Int) := by omega
      have hk0 : (0 : Int) ≤ (k : Int) := by omega
      have hlenT : (textT (fs.take k)).length ≤ 1200000 := Nat.le_trans (textT_len HF.out k) (by omega)
      have hlenF := fileT_len FW.out
      have LT : Hid ((textT (fs.take k)).length ≤ 1200000 ∧ (putT ah0 [f.name]).length ≤ 30000 ∧ (putT ah1 f.also).length ≤ 30000 ∧ (putT ah2 f.lines).length ≤ 30000) := by
        unfold fileT at hlenF
        rw [List.length_append, List.length_append] at hlenF
        exact ⟨hlenT, by omega, by omega, by omega⟩
      clear hlenT hlenF F1
      generalize textT (fs.take k) = acc at *
      have b1 : Hid (Below wr.heap.size wr ((wr.alloc (.cells #[.string f.name, .slice f.A f.also.length f.c, .slice f.L f.lines.length f.d] 68)).alloc (.cells #[.string f.name] 9))) := two_box3 _ _ _
      have K1 : Hid (Blk ((wr.alloc (.cells #[.string f.name, .slice f.A f.also.length f.c, .slice f.L f.lines.length f.d] 68)).alloc (.cells #[.string f.name] 9)) wr.heap.size 68 #[.string f.name, .slice f.A f.also.length f.c, .slice f.L f.lines.length f.d]) := (Blk.new _ _ _).alloc _
      have K2 : Hid (Blk ((wr.alloc (.cells #[.string f.name, .slice f.A f.also.length f.c, .slice f.L f.lines.length f.d] 68)).alloc (.cells #[.string f.name] 9)) (wr.heap.size + 1) 9 #[.string f.name]) := Blk.newAt (by simp) _ _
      have I1 : Hid (IsB w.heap.size w.heap.size (Lib.byteCells acc) ((wr.alloc (.cells #[.string f.name, .slice f.A f.also.length f.c, .slice f.L f.lines.length f.d] 68)).alloc (.cells #[.string f.name] 9))) := isB_alloc (isB_alloc I.out _) _
      have B1 : Hid (Below w.heap.size w ((wr.alloc (.cells #[.string f.name, .slice f.A f.also.length f.c, .slice f.L f.lines.length f.d] 68)).alloc (.cells #[.string f.name] 9))) := B.out.trans (b1.out.mono B.out.size)
      have Z0 : Hid ((Lib.byteCells acc).length + (putC ah0 [f.name]).length ≤ 140737488355328) := by rw [Hid, putC_eq, Lib.byteCells_length, Lib.byteCells_length]; have := LT.out; omega
      have Z1 : Hid ((Lib.byteCells acc ++ putC ah0 [f.name]).length + (putC ah1 f.also).length ≤ 140737488355328) := by rw [Hid, putC_eq, putC_eq, List.length_append, Lib.byteCells_length, Lib.byteCells_length, Lib.byteCells_length]; have := LT.out; omega
      have Z2 : Hid ((Lib.byteCells acc ++ putC ah0 [f.name] ++ putC ah1 f.also).length + (putC ah2 f.lines).length ≤ 140737488355328) := by rw [Hid, putC_eq, putC_eq, putC_eq, List.length_append, List.length_append, Lib.byteCells_length, Lib.byteCells_length, Lib.byteCells_length, Lib.byteCells_length]; have := LT.out; omega
      have EF : Hid (Lib.byteCells (acc ++ fileT f) = Lib.byteCells acc ++ putC ah0 [f.name] ++ putC ah1 f.also ++ putC ah2 f.lines) := by
        unfold fileT
        rw [Hid, putC_eq, putC_eq, putC_eq, Lib.byteCells_append, Lib.byteCells_append, Lib.byteCells_append, List.append_assoc, List.append_assoc]
      clear LT
      go_wp2_with fail
      clear c0 c1 c2
      generalize ((wr.alloc (.cells #[.string f.name, .slice f.A f.also.length f.c, .slice f.L f.lines.length f.d] 68)).alloc (.cells #[.string f.name] 9)) = w1 at *
      generalize hgr : wr.heap.size = gr at *
      refine (put_any w.heap.size w.heap.size (Lib.byteCells acc) ah0 [f.name] w1 (some ⟨gr + 1, 0, none⟩) 1 1 rfl (by unfold maxLen; omega) I1.out (fun w' _ hs => stay_one K2.out hs) Z0.out).mono ?_
      rintro e w2 ⟨rfl, i2, b2, s2⟩
      have I2 := Lib.hid i2
      have B2 := Lib.hid (B1.out.trans b2)
      have K3 := Lib.hid (s2 _ _ _ K1.out (by decide) (by decide))
      clear i2 b2 s2 hgr
      have p1 : w2.cell? ⟨gr, 1, none⟩ = some (.slice f.A f.also.length f.c) := K3.out.cell 1
      go_wp2_with fail
      refine (put_any w.heap.size w.heap.size _ ah1 f.also w2 f.A f.also.length f.c rfl (Nat.le_trans G.out.ac.1 G.out.ac.2) I2.out (fun w' hb' _ => (G.out.up (B2.out.trans hb')).sa) Z1.out).mono ?_
      rintro e w3 ⟨rfl, i3, b3, s3⟩
      have I3 := Lib.hid i3
      have B3 := Lib.hid (B2.out.trans b3)
      have K4 := Lib.hid (s3 _ _ _ K3.out (by decide) (by decide))
      clear i3 b3 s3 p1
      have p2 : w3.cell? ⟨gr, 2, none⟩ = some (.slice f.L f.lines.length f.d) := K4.out.cell 2
      go_wp2_with fail
      refine (put_any w.heap.size w.heap.size _ ah2 f.lines w3 f.L f.lines.length f.d rfl (Nat.le_trans G.out.lc.1 G.out.lc.2) I3.out (fun w' hb' _ => (G.out.up (B3.out.trans hb')).sl) Z2.out).mono ?_
      rintro e w4 ⟨rfl, i4, b4, s4⟩
      have I4 : Hid (IsB w.heap.size w.heap.size (Lib.byteCells (textT (fs.take (k + 1)))) w4) := by rw [P1.out, EF.out]; exact i4
      have B4 := Lib.hid (B3.out.trans b4)
      clear i4 b4 s4 p2
      go_wp2_with fail
      go_roundw
      case rel => exact ⟨k + 1, by omega, by go_num, I4, B4⟩
      case measure => simp [intOf]; omega
    · have hk' : k = n := by omega
      subst hk'
      have I2 : Hid (IsB w.heap.size w.heap.size (Lib.byteCells (textT fs)) wr) := by have := I.out; rwa [List.take_of_length_le (by rw [HL.out]; exact Nat.le_refl _)] at this
      go_wp2_with fail
      refine (Try.Builder_String_any w.heap.size w.heap.size (textT fs) wr I2.out B.out.size).mono ?_
      rintro e w2 ⟨rfl, b2⟩
      have B2 := Lib.hid (B.out.trans b2)
      clear b2
      go_wp2
      go_ret
      exact ⟨rfl, B2.out⟩
end Go.Proofs.Ytceapefjdiphpaa
