/- An index's patches are handed back in rows of their own, each list in a block of its own that may be written: walked. -/
import Derived.Test.YtnhbbggpgieipaaIdxq
namespace Go.Proofs.Ytnhbbggpgieipaa
open Go.RowKit

/-- a block of cells none of which is frozen -/
def NFr (w : World) (k : Nat) : Prop := ∃ cs t, w.heap[k]? = some (.cells cs t (0, 0))
theorem NFr.keep {w w' : World} {k : Nat} (h : NFr w k) (e : w'.heap[k]? = w.heap[k]?) : NFr w' k := by
  obtain ⟨cs, t, h⟩ := h
  exact ⟨cs, t, e.trans h⟩
theorem NFr.fr {w : World} {k : Nat} (h : NFr w k) (o : Nat) : w.frozen? ⟨k, o, none⟩ = false := by
  obtain ⟨cs, t, h⟩ := h
  simp [World.frozen?, h]
theorem own_inN {w : World} {base size n : Nat} {e : TypeId} {A : Option Addr} {c : Nat} {xs : List Value} (h : w.ownsRow base e size (.slice A n c) n xs) : InB (fun k => base ≤ k ∧ k < w.heap.size ∧ NFr w k) A n := by
  intro hn b o e
  subst e
  obtain ⟨cur, hh⟩ := own_type h rfl
  exact ⟨(h.lt b rfl).1, (h.lt b rfl).2, cur, _, hh⟩
theorem PatIn.of_copyN {w : World} {p : PatV} {B : Nat} {A1 A2 : Option Addr} {c1 c2 : Nat} (h1 : w.ownsRow B 41 2 (.slice A1 p.2.1.length c1) p.2.1.length (p.2.1.flatMap encP)) (h2 : w.ownsRow B 60 8 (.slice A2 p.2.2.length c2) p.2.2.length (p.2.2.flatMap encO))
    (ho : ∀ o ∈ p.2.2, OpV.ok o) (l1 : p.2.1.length ≤ maxLen) (l2 : p.2.2.length ≤ maxLen) : PatIn w (fun k => B ≤ k ∧ k < w.heap.size ∧ NFr w k) (patC p.1 A1 p.2.1.length c1 A2 p.2.2.length c2) p := by
  obtain ⟨A, c, e, _, s1⟩ := Sl.of_own h1
  obtain ⟨A', c', e', _, s2⟩ := Sl.of_own h2
  injection e with ea _ _
  injection e' with ea' _ _
  subst ea ea'
  exact ⟨⟨A1, c1, A2, c2, rfl, ⟨rfl, s1⟩, ⟨rfl, s2, ho⟩, own_inN h1, own_inN h2⟩, l1, l2⟩
def OwnN (B : Nat) (w : World) (s : Value) (l : List PatV) : Prop := ∃ rows D, w.ownsRow B 45 4 s l.length rows.flatten ∧ RowsIn w D rows l ∧ ∀ k, D k → B ≤ k ∧ k < w.heap.size ∧ s.ownBlock ≠ some k ∧ NFr w k
section
variable {w w' : World} {B : Nat} {s : Value} {l : List PatV}
theorem OwnN.nil (B : Nat) (w : World) : OwnN B w (.slice none 0 0) [] := ⟨[], fun _ => False, World.ownsRow_nil _ _ _ _, RowsIn.nil w _, fun _ h => h.elim⟩
theorem OwnN.stay (h : OwnN B w s l) (hk : Stay (fun k => B ≤ k) w w') : OwnN B w' s l := by
  obtain ⟨rows, D, h1, h2, h3⟩ := h
  exact ⟨rows, D, own_keepF h1 (fun g e => hk.2 g (h1.lt g e).2 (h1.lt g e).1), h2.stay (hk.mono fun k e => (h3 k e).1), fun k e => ⟨(h3 k e).1, Nat.lt_of_lt_of_le (h3 k e).2.1 hk.1, (h3 k e).2.2.1, (h3 k e).2.2.2.keep (hk.2 k (h3 k e).2.1 (h3 k e).1)⟩⟩
theorem OwnN.ext (h : OwnN B w s l) (hb : Below w.heap.size w w') : OwnN B w' s l := h.stay (Stay.of_below hb)
theorem OwnN.slice (h : OwnN B w s l) : ∃ A c, s = .slice A l.length c ∧ l.length ≤ c := by
  obtain ⟨rows, D, h1, _⟩ := h
  obtain ⟨A, c, rfl, hc, _⟩ := Sl.of_own h1
  exact ⟨A, c, rfl, hc⟩
theorem OwnN.mono {B' : Nat} (h : OwnN B w s l) (hB : B' ≤ B) : OwnN B' w s l := by
  obtain ⟨rows, D, h1, h2, h3⟩ := h
  exact ⟨rows, D, own_rebase h1 (fun k e => Nat.le_trans hB (h1.lt k e).1), h2, fun k e => ⟨Nat.le_trans hB (h3 k e).1, (h3 k e).2⟩⟩
theorem OwnN.push {w0 : World} {v : Value} {r : List Value} {p : PatV} {C : Nat} {rows : List (List Value)} {D : Nat → Prop} (ho : w'.ownsRow B 45 4 v (l.length + 1) (rows.flatten ++ r)) (hk : Kept (fun k => s.ownBlock = some k) w0 w')
    (hv : ∀ k, v.ownBlock = some k → s.ownBlock = some k ∨ w0.heap.size ≤ k) (hr : RowsIn w0 D rows l) (hD : ∀ k, D k → B ≤ k ∧ k < w0.heap.size ∧ s.ownBlock ≠ some k ∧ NFr w0 k) (hp : PatIn w0 (fun k => C ≤ k ∧ k < w0.heap.size ∧ NFr w0 k) r p) (hC : B ≤ C) (hs : ∀ k, s.ownBlock = some k → k < C) : OwnN B w' v (l ++ [p]) := by
  have st : Stay (fun k => D k ∨ C ≤ k ∧ k < w0.heap.size ∧ NFr w0 k) w0 w' := hk.stay fun k _ hd e => hd.elim (fun hd => (hD k hd).2.2.1 e) (fun hd => by have := hs k e; omega)
  refine ⟨rows ++ [r], fun k => D k ∨ C ≤ k ∧ k < w0.heap.size ∧ NFr w0 k, ?_, ((hr.mono fun k hd => .inl hd).snoc (hp.mono fun k hd => .inr hd)).stay st, fun k hd => ?_⟩
  · rw [List.length_append, List.flatten_append]
    simpa using ho
  · have hlt : B ≤ k ∧ k < w0.heap.size ∧ NFr w0 k := hd.elim (fun hd => ⟨(hD k hd).1, (hD k hd).2.1, (hD k hd).2.2.2⟩) (fun hd => ⟨by omega, hd.2⟩)
    refine ⟨hlt.1, Nat.lt_of_lt_of_le hlt.2.1 hk.size, fun e => ?_, hlt.2.2.keep (st.2 k hlt.2.1 hd)⟩
    rcases hv k e with e | e
    · exact hd.elim (fun hd => (hD k hd).2.2.1 e) (fun hd => by have := hs k e; omega)
    · omega
end
def RetN (w : World) (l : List PatV) (e : Ending) (w' : World) : Prop := ∃ s, e = .returned s ∧ OwnN w.heap.size w' s l ∧ Below w.heap.size w w'
set_option maxRecDepth 100000 in
set_option maxHeartbeats 2000000 in
theorem lack31N_any {w : World} {F : Nat → Prop} {g : Nat} {L : List PatV} (hI : IdxAt w F g L) (hn : L.length ≤ 100000) (v : List Int) (hv : VecOk v) :
    Calls Try.prog 15 #[.pointer (some ⟨g, 0, none⟩), .agg (vecA v)] w (RetN w (lackP v L)) := by
  have HI := Lib.hid hI
  have HV := Lib.hid (fun (d : PidV) (u : World) => has_any v hv d.1.val d.1.isLt ((d.2.val : Nat) : Int) u)
  have hs1 : Hid ((vecA v).size = 64) := by rw [Hid, vecA_size]; exact hv.len
  have K1 : Hid (Blk (w.alloc (.cells (vecA v) 25)) w.heap.size 25 (vecA v)) := Blk.new _ _ _
  have B0 : Hid (Below w.heap.size w (w.alloc (.cells (vecA v) 25))) := below_new _ _
  clear hI hv
  go_enter Try.func15, Try.ntmps15
  go_upto_region 2 with fail
  generalize (w.alloc (.cells (vecA v) 25)) = w2 at *
  have HI := Lib.hid (HI.out.ext B0.out)
  generalize w.heap.size = g0 at K1 ⊢
  have hgl : Hid (g0 < w2.heap.size) := K1.out.lt
  go_wp2_with fail
  refine (len31_any HI.out).mono ?_
  rintro e w3 ⟨rfl, rfl⟩
  have BS := Lib.hid (Below.refl w2.heap.size w2)
  go_wp2_with fail
  go_loopw [9, 5] (fun i s wr => ∃ k : Nat, k ≤ L.length ∧ i = .int .i64 k ∧ Hid (OwnN w2.heap.size wr s (lackP v (L.take k))) ∧ Hid (Below w2.heap.size w2 wr)) (fun i _ _ => L.length - (intOf i).toNat)
  case atStart => exact ⟨0, by omega, rfl, OwnN.nil _ _, BS.out⟩
  case round =>
    clear BS
    obtain ⟨k, hk, rfl, O, B⟩ := hrel
    have hk0 : (0 : Int) ≤ (k : Int) := by omega
    by_cases hlt : k < L.length
    · have hlk : (k : Int) < (L.length : Int) := by omega
      obtain ⟨A, c, gm, IC⟩ := (HI.out.ext B.out).cells
      obtain ⟨b, o, p, r, rfl, hb, hp, pa, R⟩ := IC.pats.pat_ hlt
      have c64 := IC.s
      have PA := Lib.hid pa
      have GL := Lib.hid (patB_len (HI.out.ok.good p (List.mem_of_getElem? hp)))
      have KB := Lib.hid (K1.out.below B.out hgl.out)
      have R := Lib.hid R
      obtain ⟨⟨A1, c1, A2, c2, rfl, _, _, _, _⟩, _, _⟩ := PA.out
      have RP := Lib.hid (pid_range R.out)
      have HP := Lib.hid (HV.out p.1)
      have hOB : Hid (w2.heap.size ≤ wr.heap.size) := B.out.size
      clear pa IC
      cases hh : hasP v p.1
      · have N : Hid (lackP v (L.take (k + 1)) = lackP v (L.take k) ++ [p]) := by rw [Hid, lackP_snoc hp, if_neg (by simp [hh])]
        have hh' : hasV v p.1.1.val ((p.1.2.val : Nat) : Int) = false := hh
        rw [hh'] at HP
        clear hh hh' hp
        go_wp2_with fail
        refine wp_region_ext mixedS (by kernel_rfl) ?_
        repeat (first
          | (refine wpQuiet_load_row KB.out under64 rfl (by rw [hs1.out]; exact info64) rfl rfl ?_; simp only [List.set_cons_succ, List.set_cons_zero])
          | (refine wpQuiet_load_mid (rangeAt_ext RP.out hb) underPid rfl infoPid rfl rfl ?_; simp only [List.set_cons_succ, List.set_cons_zero])
          | go_big_quiet_step ((go_at_call 57; exact ext_call (HP.out _))))
        refine wpQuiet_nil ?_
        rintro _ ⟨z, rfl⟩
        have z64 := c64 z
        have B3 := Lib.hid (B.out.trans (z.h.mono B.out.size))
        have O3 := Lib.hid (O.out.ext z.h)
        have PA3 := Lib.hid (PA.out.ext z.h)
        have R3 := Lib.hid (rangeAt_ext R.out hb z.w ⟨z, rfl⟩)
        have hOB3 : Hid (w2.heap.size ≤ z.w.heap.size) := Nat.le_trans hOB.out z.h.size
        have hb3 : Hid (b < z.w.heap.size) := Nat.lt_of_lt_of_le hb z.h.size
        generalize z.w = w3 at *
        clear c64 O PA R RP HP KB B hOB
        have HC := Lib.hid (copy18_any p w3 _ PA3.out.at_ (by have := GL.out.1; omega) (by have := GL.out.2; omega))
        go_wp2_with (refine wpList_load_mid rfl 45 _ (by rfl) b (o + k * 4) (by rfl) _ _ R3.out underPat rfl infoPat ?_)
        refine HC.out.mono ?_
        rintro e w4 ⟨A3, c3, A4, c4, rfl, o1, o2, b4⟩
        have PN := Lib.hid (PatIn.of_copyN o1 o2 PA3.out.at_.oks PA3.out.len1 PA3.out.len2)
        have O4 := O3.out.ext b4
        have B4 := Lib.hid (B3.out.trans (b4.mono B3.out.size))
        have hOB4 : Hid (w2.heap.size ≤ w4.heap.size) := Nat.le_trans hOB3.out b4.size
        obtain ⟨rows, D, own, RI, HD⟩ := O4
        have hsl : Hid (∀ k, u5.ownBlock = some k → k < w3.heap.size) := fun k e => by
          obtain ⟨_, _, ow, _⟩ := O3.out
          exact (ow.lt k e).2
        have own := Lib.hid own
        have RI := Lib.hid RI
        have HD := Lib.hid HD
        have hle : Hid ((lackP v (L.take k)).length ≤ 100000) := Nat.le_trans (List.length_filter_le _ _) (by rw [List.length_take]; omega)
        clear o1 o2 b4 HC O3 B3 R3
        go_wp2_with (first
          | (refine wpList_lit1 patSl PN.out.len4 (by omega) (by rfl) ?_)
          | (at_builtin; refine wpList_pushF patSl own.out (patC p.1 A3 p.2.1.length c3 A4 p.2.2.length c4) PN.out.len4 PN.out.one hOB4.out (by have := hle.out; omega) (by have := hle.out; unfold maxLen; omega) (by rfl) (by rfl) (by rfl) ?_; intro v5 w5 own5 kep5 new5))
        have O5 := Lib.hid (OwnN.push own5 kep5 new5 RI.out HD.out PN.out hOB3.out hsl.out)
        rw [← N.out] at O5
        have B5 := Lib.hid (B4.out.trans ((kep5.below (B := w2.heap.size) (fun k e => (own.out.lt k e).1) B4.out.size)))
        clear own5 kep5 new5
        go_roundw
        case rel => exact ⟨k + 1, by omega, by go_num, O5.out, B5.out⟩
        case measure => simp [intOf]; omega
      · have N : Hid (lackP v (L.take (k + 1)) = lackP v (L.take k)) := by rw [Hid, lackP_snoc hp, if_pos hh]
        have hh' : hasV v p.1.1.val ((p.1.2.val : Nat) : Int) = true := hh
        rw [hh'] at HP
        clear hh hh' hp
        go_wp2_with fail
        refine wp_region_ext mixedS (by kernel_rfl) ?_
        repeat (first
          | (refine wpQuiet_load_row KB.out under64 rfl (by rw [hs1.out]; exact info64) rfl rfl ?_; simp only [List.set_cons_succ, List.set_cons_zero])
          | (refine wpQuiet_load_mid (rangeAt_ext RP.out hb) underPid rfl infoPid rfl rfl ?_; simp only [List.set_cons_succ, List.set_cons_zero])
          | go_big_quiet_step ((go_at_call 57; exact ext_call (HP.out _))))
        refine wpQuiet_nil ?_
        rintro _ ⟨z, rfl⟩
        have B3 := Lib.hid (B.out.trans (z.h.mono B.out.size))
        have O3 := Lib.hid (O.out.ext z.h)
        rw [← N.out] at O3
        generalize z.w = w3 at *
        clear c64 O PA R RP HP KB B hOB
        go_wp2_with fail
        go_roundw
        case rel => exact ⟨k + 1, by omega, by go_num, O3.out, B3.out⟩
        case measure => simp [intOf]; omega
    · have hk' : k = L.length := by omega
      subst hk'
      rw [List.take_length] at O
      obtain ⟨A, c, rfl, _⟩ := O.out.slice
      go_wp2
      go_ret
      exact ⟨_, rfl, O.out.mono B0.out.size, B0.out.trans (B.out.mono B0.out.size)⟩

set_option maxRecDepth 100000 in
set_option maxHeartbeats 2000000 in
theorem all31N_any {w : World} {F : Nat → Prop} {g : Nat} {L : List PatV} (hI : IdxAt w F g L) (hn : L.length ≤ 100000) :
    Calls Try.prog 17 #[.pointer (some ⟨g, 0, none⟩)] w (RetN w L) := by
  have HL := Lib.hid (lack31N_any hI hn vec0 vec0_ok)
  rw [lackP_vec0] at HL
  clear hI
  go_enter Try.func17, Try.ntmps17
  go_wp2_with (refine wpList_built (buildVec0 _) (by rfl) ?_)
  refine HL.out.mono ?_
  rintro e w3 ⟨s, rfl, O, b3⟩
  have O := Lib.hid O
  have b3 := Lib.hid b3
  go_wp2
  go_ret
  exact ⟨_, rfl, O.out, b3.out⟩

end Go.Proofs.Ytnhbbggpgieipaa
