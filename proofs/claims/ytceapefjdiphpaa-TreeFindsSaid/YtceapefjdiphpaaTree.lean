/- Trees as they lie in memory. -/
import Derived.Test.YtceapefjdiphpaaNest
import Derived.Test.YtceapefjdiphpaaCat
namespace Go.Proofs.Ytceapefjdiphpaa
open Go.RowKit

/-- a file: its name, further names, its lines; and where both lists lie -/
structure FileV where
  name : ByteArray
  A : Option Addr
  c : Nat
  also : List ByteArray
  L : Option Addr
  d : Nat
  lines : List ByteArray
def strsC (l : List ByteArray) : List Value := l.map Value.string
def fileC (f : FileV) : List Value := [.string f.name, .slice f.A f.also.length f.c, .slice f.L f.lines.length f.d]
structure FileOk (w : World) (B : Nat) (f : FileV) : Prop where
  hn : f.name.size ≤ maxLen
  ac : f.also.length ≤ f.c ∧ f.c ≤ maxLen
  lc : f.lines.length ≤ f.d ∧ f.d ≤ maxLen
  sa : Sl w B 1 f.A f.also.length (strsC f.also)
  sl : Sl w B 1 f.L f.lines.length (strsC f.lines)
  za : ∀ s ∈ f.also, s.size ≤ maxLen
  zl : ∀ s ∈ f.lines, s.size ≤ maxLen
structure TreeOk (w : World) (B : Nat) (A : Option Addr) (fs : List FileV) : Prop where
  sl : Sl w B 3 A fs.length (fs.flatMap fileC)
  ok : ∀ f ∈ fs, FileOk w B f

section
variable {w w' : World} {B : Nat} {A : Option Addr} {fs : List FileV} {f : FileV}
theorem FileOk.keep (h : FileOk w B f) (hk : ∀ b o, b < B → w'.cell? ⟨b, o, none⟩ = w.cell? ⟨b, o, none⟩) : FileOk w' B f := ⟨h.hn, h.ac, h.lc, h.sa.keep hk, h.sl.keep hk, h.za, h.zl⟩
theorem TreeOk.keep (h : TreeOk w B A fs) (hk : ∀ b o, b < B → w'.cell? ⟨b, o, none⟩ = w.cell? ⟨b, o, none⟩) : TreeOk w' B A fs := ⟨h.sl.keep hk, fun f hf => (h.ok f hf).keep hk⟩
theorem FileOk.below {C : Nat} (h : FileOk w B f) (hb : Below C w w') (hC : B ≤ C) : FileOk w' B f := h.keep fun b o hlt => hb.cell (p := ⟨b, o, none⟩) (by show b < C; omega)
theorem TreeOk.below {C : Nat} (h : TreeOk w B A fs) (hb : Below C w w') (hC : B ≤ C) : TreeOk w' B A fs := h.keep fun b o hlt => hb.cell (p := ⟨b, o, none⟩) (by show b < C; omega)
theorem FileOk.more {C : Nat} (h : FileOk w B f) (hC : B ≤ C) : FileOk w C f := ⟨h.hn, h.ac, h.lc, h.sa.more hC, h.sl.more hC, h.za, h.zl⟩
theorem TreeOk.more {C : Nat} (h : TreeOk w B A fs) (hC : B ≤ C) : TreeOk w C A fs := ⟨h.sl.more hC, fun f hf => (h.ok f hf).more hC⟩
theorem TreeOk.up (h : TreeOk w w.heap.size A fs) (hb : Below w.heap.size w w') : TreeOk w' w'.heap.size A fs := (h.below hb (Nat.le_refl _)).more hb.size
theorem FileOk.up (h : FileOk w w.heap.size f) (hb : Below w.heap.size w w') : FileOk w' w'.heap.size f := (h.below hb (Nat.le_refl _)).more hb.size
theorem fileC_len (f : FileV) : (fileC f).length = 3 := rfl
/-- the file k -/
theorem TreeOk.at_ (h : TreeOk w B A fs) {k : Nat} (hk : k < fs.length) : ∃ b o, A = some ⟨b, o, none⟩ ∧ b < B ∧ w.rangeAt b (o + k * 3) (fileC fs[k]) :=
  h.sl.rowAt (enc := fileC) rfl (fun _ _ => rfl) hk
theorem oks_strs {rows : List (List Value)} (h : ∀ r ∈ rows, Sh.oks w B [.str] r) : ∃ l : List ByteArray, rows = l.map (fun s => [Value.string s]) ∧ ∀ s ∈ l, s.size ≤ maxLen :=
  rows_map (fun s => [Value.string s]) (fun s => s.size ≤ maxLen) rows (fun r hr => by
    have := h r hr
    match r, this with
    | [v], hv =>
      simp only [Sh.oks, Sh.ok, and_true] at hv
      obtain ⟨s, rfl, hs⟩ := hv
      exact ⟨s, rfl, hs⟩
    | [], hv => simp [Sh.oks] at hv
    | _ :: _ :: _, hv => simp [Sh.oks] at hv)
/-- an argument of such a type -/
theorem tree_of {n : Nat} {rows : List (List Value)} (hn : rows.length = n) (hr : ∀ x ∈ rows, Sh.oks w B [.str, .sl [.str], .sl [.str]] x) (hs : Sl w B 3 A n rows.flatten) : ∃ fs : List FileV, fs.length = n ∧ TreeOk w B A fs := by
  obtain ⟨fs, hz, hf⟩ := rows_map fileC (FileOk w B) rows (fun r hr' => by
    have := hr r hr'
    match r, this with
    | [v0, v1, v2], hv =>
      simp only [Sh.oks, Sh.ok, and_true] at hv
      obtain ⟨⟨s, rfl, hs⟩, ⟨A1, n1, c1, rows1, rfl, h11, h12, h13, h14, h15⟩, ⟨A2, n2, c2, rows2, rfl, h21, h22, h23, h24, h25⟩⟩ := hv
      obtain ⟨l1, rfl, z1⟩ := oks_strs h14
      obtain ⟨l2, rfl, z2⟩ := oks_strs h24
      rw [List.length_map] at h13 h23
      subst h13 h23
      rw [flatten_one] at h15 h25
      exact ⟨⟨s, A1, c1, l1, A2, c2, l2⟩, rfl, ⟨hs, ⟨h11, h12⟩, ⟨h21, h22⟩, h15, h25, z1, z2⟩⟩
    | [], hv => simp [Sh.oks] at hv
    | [_], hv => simp [Sh.oks] at hv
    | [_, _], hv => simp [Sh.oks] at hv
    | _ :: _ :: _ :: _ :: _, hv => simp [Sh.oks] at hv)
  have hl : fs.length = n := by rw [← hn, hz, List.length_map]
  refine ⟨fs, hl, ?_, hf⟩
  rw [hz, ← List.flatMap_def, ← hl] at hs
  exact hs
end
end Go.Proofs.Ytceapefjdiphpaa
