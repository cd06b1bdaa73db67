/- An index made of patches; what any vector lacks, by the document: walked. -/
import Derived.Test.YtnhbbggpgieipaaIdxf
import Derived.Test.YtnhbbggpgieipaaVrefs
namespace Go.Proofs.Ytnhbbggpgieipaa
open Go.RowKit

def madeL (l : List PatV) : List PatV := l.foldl idxL []
theorem madeL_snoc {l : List PatV} {k : Nat} {p : PatV} (h : l[k]? = some p) : madeL (l.take (k + 1)) = idxL (madeL (l.take k)) p := by
  rw [take_snoc' h]
  unfold madeL
  rw [List.foldl_append]; rfl
theorem idxL_len (L : List PatV) (p : PatV) : (idxL L p).length ≤ L.length + 1 := by
  unfold idxL; split <;> simp
theorem madeL_go (l : List PatV) : ∀ acc : List PatV, (l.foldl idxL acc).length ≤ acc.length + l.length := by
  induction l with
  | nil => intro acc; simp
  | cons p l ih =>
    intro acc
    have h1 := ih (idxL acc p)
    have h2 := idxL_len acc p
    simp only [List.foldl_cons, List.length_cons]
    omega
theorem madeL_len (l : List PatV) : (madeL l).length ≤ l.length := by have := madeL_go l []; simpa [madeL] using this
theorem fews_at {l : List PatV} {m : Int} (h : fewsB l m = true) : (l.length : Int) ≤ m ∧ ∀ p ∈ l, p.2.1.length ≤ 100 ∧ p.2.2.length ≤ 60 := by
  unfold fewsB at h
  rw [Bool.and_eq_true, decide_eq_true_eq, List.all_eq_true] at h
  refine ⟨h.1, fun p hp => ?_⟩
  have := h.2 p hp
  unfold fewOne fewP at this
  simp only [Bool.and_eq_true, decide_eq_true_eq] at this
  exact ⟨this.1.1, this.2⟩
/-- an index is handed back that is the call's own -/
def RetIdx (w : World) (L : List PatV) (e : Ending) (w' : World) : Prop := ∃ g F, e = .returned (.pointer (some ⟨g, 0, none⟩)) ∧ IdxAt w' F g L ∧ (∀ k, F k → w.heap.size ≤ k) ∧ Below w.heap.size w w'
set_option maxRecDepth 100000 in
set_option maxHeartbeats 4000000 in
theorem made31_any (l : List PatV) (w : World) (A : Option Addr) (n c : Nat) (h : PatsAt w A n l) (hm : n ≤ 100) (hf : ∀ p ∈ l, p.2.1.length ≤ 100 ∧ p.2.2.length ≤ 60) :
    Calls Try.prog 13 #[.slice A n c] w (RetIdx w (madeL l)) := by
  have H := Lib.hid h
  have HF := Lib.hid hf
  clear h hf
  go_enter Try.func13, Try.ntmps13
  go_wp2_with fail
  refine (new31_any _).mono ?_
  rintro e w2 ⟨g, rfl, HI, b2⟩
  have HI0 : Hid (∃ F, IdxAt w2 F g (madeL (l.take 0)) ∧ ∀ k, F k → w.heap.size ≤ k) := ⟨fun k => w.heap.size ≤ k ∧ k < w2.heap.size, by rw [List.take_zero]; exact HI, fun k e => e.1⟩
  have B2 := Lib.hid b2
  clear HI b2
  go_wp2_with fail
  go_loopw [4] (fun i wr => ∃ k : Nat, k ≤ n ∧ i = .int .i64 k ∧ Hid (∃ F, IdxAt wr F g (madeL (l.take k)) ∧ ∀ k, F k → w.heap.size ≤ k) ∧ Hid (Below w.heap.size w wr)) (fun i _ => n - (intOf i).toNat)
  case atStart => exact ⟨0, by omega, rfl, HI0.out, B2.out⟩
  case round =>
    clear HI0 B2
    obtain ⟨k, hk, rfl, HI, B⟩ := hrel
    have hk0 : (0 : Int) ≤ (k : Int) := by omega
    by_cases hlt : k < n
    · have hlk : (k : Int) < (n : Int) := by omega
      obtain ⟨F, HI, hF⟩ := HI.out
      have HI := Lib.hid HI
      have hF := Lib.hid hF
      obtain ⟨b, o, p, r, rfl, hb, hp, pa, R⟩ := H.out.at_ hlt
      have R := Lib.hid (rangeAt_below R B.out hb)
      have PA := Lib.hid (pa.ext B.out)
      have hq := Lib.hid (HF.out p (List.mem_of_getElem? hp))
      have hl : Hid ((madeL (l.take k)).length ≤ 10000) := Nat.le_trans (madeL_len _) (by rw [List.length_take]; omega)
      obtain ⟨⟨A1, c1, A2, c2, rfl, _, _⟩, _, _⟩ := PA.out
      have N := Lib.hid (madeL_snoc hp)
      have HP := Lib.hid (put31_any HI.out hl.out p _ PA.out ⟨by have := hq.out.1; omega, by have := hq.out.2; omega⟩)
      clear pa hp PA
      go_wp2_with (refine wpList_load_mid rfl 45 _ (by rfl) b (o + k * 4) (by rfl) _ _ R.out underPat rfl infoPat ?_)
      refine HP.out.mono ?_
      rintro e w5 ⟨rfl, kp, F', HI', hF'⟩
      have B5 := Lib.hid (B.out.trans (kp.below hF.out B.out.size))
      have HI5 : Hid (∃ F, IdxAt w5 F g (madeL (l.take (k + 1))) ∧ ∀ k, F k → w.heap.size ≤ k) := ⟨F', by rw [N.out]; exact HI', fun x e => (hF' x e).elim (hF.out x) (fun e => Nat.le_trans B.out.size e)⟩
      clear kp HI' hF' HP R HI
      go_wp2_with fail
      go_roundw
      case rel => exact ⟨k + 1, by omega, by go_num, HI5.out, B5.out⟩
      case measure => simp [intOf]; omega
    · have hk' : k = n := by omega
      subst hk'
      rw [List.take_of_length_le (Nat.le_of_eq H.out.len)] at HI
      go_wp2
      go_ret
      obtain ⟨F, HI, hF⟩ := HI.out
      exact ⟨g, F, rfl, HI, hF, B.out⟩

/-- patches of a slice, picked: a row of the call's own whose patches lie in G -/
def OwnG (G : Nat → Prop) (B : Nat) (w : World) (s : Value) (l : List PatV) : Prop := ∃ rows, w.ownsRow B 45 4 s l.length rows.flatten ∧ RowsIn w G rows l
def RetP (w : World) (G : Nat → Prop) (l : List PatV) (e : Ending) (w' : World) : Prop := ∃ A c, e = .returned (.slice A l.length c) ∧ PatsIn w' (fun k => G k ∨ w.heap.size ≤ k) A l.length l ∧ Below w.heap.size w w'
set_option maxRecDepth 100000 in
set_option maxHeartbeats 4000000 in
theorem rlack31_any (l : List PatV) (v : List Int) (hv : VecOk v) (w : World) (G : Nat → Prop) (hG : ∀ k, G k → k < w.heap.size) (A : Option Addr) (n c : Nat) (h : PatsIn w G A n l) (hm : n ≤ 100000) :
    Calls Try.prog 16 #[.slice A n c, .agg (vecA v)] w (RetP w G (lackP v l)) := by
  have H := Lib.hid h
  have HV := Lib.hid (fun (d : PidV) (u : World) => rhas_any v hv d.1.val ((d.2.val : Nat) : Int) ⟨by omega, by have := d.2.isLt; omega⟩ u)
  have hs1 : Hid ((vecA v).size = 64) := by rw [Hid, vecA_size]; exact hv.len
  have K1 : Hid (Blk (w.alloc (.cells (vecA v) 25)) w.heap.size 25 (vecA v)) := Blk.new _ _ _
  have B0 : Hid (Below w.heap.size w (w.alloc (.cells (vecA v) 25))) := below_new _ _
  clear h hv
  go_enter Try.func16, Try.ntmps16
  go_upto_region 2 with fail
  generalize (w.alloc (.cells (vecA v) 25)) = w2 at *
  have H := Lib.hid (H.out.ext B0.out)
  have hG := Lib.hid (fun k e => Nat.lt_of_lt_of_le (hG k e) B0.out.size)
  generalize w.heap.size = g0 at K1 ⊢
  have hgl : Hid (g0 < w2.heap.size) := K1.out.lt
  have BS := Lib.hid (Below.refl w2.heap.size w2)
  go_wp2_with fail
  go_loopw [6, 5] (fun i s wr => ∃ k : Nat, k ≤ n ∧ i = .int .i64 k ∧ Hid (OwnG G w2.heap.size wr s (lackP v (l.take k))) ∧ Hid (Below w2.heap.size w2 wr)) (fun i _ _ => n - (intOf i).toNat)
  case atStart => exact ⟨0, by omega, rfl, ⟨[], World.ownsRow_nil _ _ _ _, RowsIn.nil _ _⟩, BS.out⟩
  case round =>
    clear BS
    obtain ⟨k, hk, rfl, O, B⟩ := hrel
    have hk0 : (0 : Int) ≤ (k : Int) := by omega
    by_cases hlt : k < n
    · have hlk : (k : Int) < (n : Int) := by omega
      obtain ⟨b, o, p, r, rfl, hb, hp, pa, R⟩ := H.out.pat_ hlt
      have PA := Lib.hid (pa.ext B.out)
      have KB := Lib.hid (K1.out.below B.out hgl.out)
      have R := Lib.hid (rangeAt_below R B.out hb)
      have hb : Hid (b < wr.heap.size) := Nat.lt_of_lt_of_le hb B.out.size
      obtain ⟨⟨A1, c1, A2, c2, rfl, _, _, _, _⟩, _, _⟩ := PA.out
      have RP := Lib.hid (pid_range R.out)
      have HP := Lib.hid (HV.out p.1)
      have hOB : Hid (w2.heap.size ≤ wr.heap.size) := B.out.size
      clear pa
      cases hh : hasP v p.1
      · have N : Hid (lackP v (l.take (k + 1)) = lackP v (l.take k) ++ [p]) := by rw [Hid, lackP_snoc hp, if_neg (by simp [hh])]
        have hh' : hasV v p.1.1.val ((p.1.2.val : Nat) : Int) = false := hh
        rw [hh'] at HP
        clear hh hh' hp
        go_wp2_with fail
        refine wp_region_ext mixedS (by kernel_rfl) ?_
        repeat (first
          | (refine wpQuiet_load_row KB.out under64 rfl (by rw [hs1.out]; exact info64) rfl rfl ?_; simp only [List.set_cons_succ, List.set_cons_zero])
          | (refine wpQuiet_load_mid (rangeAt_ext RP.out hb.out) underPid rfl infoPid rfl rfl ?_; simp only [List.set_cons_succ, List.set_cons_zero])
          | go_big_quiet_step ((go_at_call 22; exact ext_call (HP.out _))))
        refine wpQuiet_nil ?_
        rintro _ ⟨z, rfl⟩
        have B3 := Lib.hid (B.out.trans (z.h.mono B.out.size))
        have PA3 := Lib.hid (PA.out.ext z.h)
        have R3 := Lib.hid (rangeAt_ext R.out hb.out z.w ⟨z, rfl⟩)
        have hOB3 : Hid (w2.heap.size ≤ z.w.heap.size) := Nat.le_trans hOB.out z.h.size
        have O3 : Hid (OwnG G w2.heap.size z.w u5 (lackP v (l.take k))) := by
          obtain ⟨rows, o1, o2⟩ := O.out
          exact ⟨rows, own_ext o1 z.h, o2.stay (Stay.of_below z.h)⟩
        generalize z.w = w3 at *
        clear O PA R RP HP KB B hOB hb
        obtain ⟨rows, own, RI⟩ := O3.out
        have own := Lib.hid own
        have RI := Lib.hid RI
        have hle : Hid ((lackP v (l.take k)).length ≤ 100000) := Nat.le_trans (List.length_filter_le _ _) (by rw [List.length_take]; omega)
        clear O3
        go_wp2_with (first
          | (refine wpList_load_mid rfl 45 _ (by rfl) b (o + k * 4) (by rfl) _ _ R3.out underPat rfl infoPat ?_)
          | (refine wpList_lit1 patSl PA3.out.len4 (by omega) (by rfl) ?_)
          | (at_builtin; refine wpList_pushF patSl own.out (patC p.1 A1 p.2.1.length c1 A2 p.2.2.length c2) PA3.out.len4 PA3.out.one hOB3.out (by have := hle.out; omega) (by have := hle.out; unfold maxLen; omega) (by rfl) (by rfl) (by rfl) ?_; intro v5 w5 own5 kep5 new5))
        have st : Stay G w3 w5 := kep5.stay fun k _ hd e => by have := hG.out k hd; have := (own.out.lt k e).1; omega
        have O5 : Hid (OwnG G w2.heap.size w5 v5 (lackP v (l.take (k + 1)))) := by
          rw [N.out]
          refine ⟨rows ++ [patC p.1 A1 p.2.1.length c1 A2 p.2.2.length c2], ?_, (RI.out.snoc PA3.out).stay st⟩
          rw [List.length_append, List.flatten_append]
          simpa using own5
        have B5 := Lib.hid (B3.out.trans ((kep5.below (B := w2.heap.size) (fun k e => (own.out.lt k e).1) B3.out.size)))
        clear own5 kep5 new5 st
        go_roundw
        case rel => exact ⟨k + 1, by omega, by go_num, O5.out, B5.out⟩
        case measure => simp [intOf]; omega
      · have N : Hid (lackP v (l.take (k + 1)) = lackP v (l.take k)) := by rw [Hid, lackP_snoc hp, if_pos hh]
        have hh' : hasV v p.1.1.val ((p.1.2.val : Nat) : Int) = true := hh
        rw [hh'] at HP
        clear hh hh' hp
        go_wp2_with fail
        refine wp_region_ext mixedS (by kernel_rfl) ?_
        repeat (first
          | (refine wpQuiet_load_row KB.out under64 rfl (by rw [hs1.out]; exact info64) rfl rfl ?_; simp only [List.set_cons_succ, List.set_cons_zero])
          | (refine wpQuiet_load_mid (rangeAt_ext RP.out hb.out) underPid rfl infoPid rfl rfl ?_; simp only [List.set_cons_succ, List.set_cons_zero])
          | go_big_quiet_step ((go_at_call 22; exact ext_call (HP.out _))))
        refine wpQuiet_nil ?_
        rintro _ ⟨z, rfl⟩
        have B3 := Lib.hid (B.out.trans (z.h.mono B.out.size))
        have O3 : Hid (OwnG G w2.heap.size z.w u5 (lackP v (l.take (k + 1)))) := by
          rw [N.out]
          obtain ⟨rows, o1, o2⟩ := O.out
          exact ⟨rows, own_ext o1 z.h, o2.stay (Stay.of_below z.h)⟩
        generalize z.w = w3 at *
        clear O PA R RP HP KB B hOB
        go_wp2_with fail
        go_roundw
        case rel => exact ⟨k + 1, by omega, by go_num, O3.out, B3.out⟩
        case measure => simp [intOf]; omega
    · have hk' : k = n := by omega
      subst hk'
      rw [List.take_of_length_le (Nat.le_of_eq H.out.len)] at O
      obtain ⟨rows, own, RI⟩ := O.out
      obtain ⟨A', c', rfl, _, hs⟩ := Sl.of_own own
      have own := Lib.hid own
      have RI := Lib.hid RI
      have hs := Lib.hid hs
      go_wp2
      go_ret
      exact ⟨A', c', rfl, ⟨rfl, (own_inB own.out).mono fun k e => .inr (Nat.le_trans B0.out.size e.1), rows, RI.out.mono fun k e => .inl e, hs.out⟩, B0.out.trans (B.out.mono B0.out.size)⟩
end Go.Proofs.Ytnhbbggpgieipaa
