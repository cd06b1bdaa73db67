/- Texts of general use, one behind another. -/
import Derived.Test.YtihggkmjalofiaaGreatDoorRlts
import Derived.Test.YtihggkmjalofiaaGreatDoorIdxz
import Derived.Test.YtihggkmjalofiaaGreatDoorMasks

/- Which patches hang on which: plain law; no program in sight. -/
namespace Go.Proofs.YtihggkmjalofiaaGreatDoor
open Go.RowKit

/-- the patches' names, each once, rising -/
def namesH (l : List PatV) : List PidV := setK keyP (l.map (·.1))
theorem riseK_nodup {D : List PidV} (h : RiseK keyP D) : D.Nodup := List.Pairwise.imp (fun hab e => by rw [e] at hab; omega) h
theorem namesH_nodup (l : List PatV) : (namesH l).Nodup := riseK_nodup (setK_rise keyP_inj _)
theorem namesH_mem (l : List PatV) (d : PidV) : d ∈ namesH l ↔ ∃ p ∈ l, p.1 = d := by
  unfold namesH
  rw [setK_mem keyP_inj, List.mem_map]
theorem namesH_len (l : List PatV) : (namesH l).length ≤ l.length := by
  have := setK_len (key := keyP) (l.map (·.1))
  rwa [List.length_map] at this
/-- a name's place; -1: it is not there -/
def placeD (D : List PidV) (d : PidV) : Int := if d ∈ D then ((D.idxOf d : Nat) : Int) else -1
theorem placeD_at {D : List PidV} (hD : D.Nodup) {i : Nat} {d : PidV} (h : D[i]? = some d) : placeD D d = (i : Int) := by
  obtain ⟨hi, rfl⟩ := List.getElem?_eq_some_iff.1 h
  unfold placeD
  rw [if_pos (List.getElem_mem hi), hD.idxOf_getElem i hi]
/-- the steps to one place -/
def stepsOf (D : List PidV) (j : Nat) (p : PatV) : List (Nat × Nat) := p.2.1.filterMap fun d => if d ∈ D then some (D.idxOf d, j) else none
theorem mem_stepsOf {D : List PidV} (hD : D.Nodup) {j : Nat} {p : PatV} {x : Nat × Nat} : x ∈ stepsOf D j p ↔ x.2 = j ∧ ∃ d ∈ p.2.1, D[x.1]? = some d := by
  unfold stepsOf
  rw [List.mem_filterMap]
  constructor
  · rintro ⟨d, hd, e⟩
    split at e
    · rename_i hm
      injection e with e
      subst e
      have hi := List.idxOf_lt_length_of_mem hm
      exact ⟨rfl, d, hd, by rw [List.getElem?_eq_getElem hi, List.getElem_idxOf hi]⟩
    · cases e
  · rintro ⟨rfl, d, hd, e⟩
    obtain ⟨hi, rfl⟩ := List.getElem?_eq_some_iff.1 e
    refine ⟨_, hd, ?_⟩
    rw [if_pos (List.getElem_mem hi), hD.idxOf_getElem _ hi]
/-- what hangs on what, by places -/
def HangE (l : List PatV) (x : Nat × Nat) : Prop := ∃ p d, (namesH l)[x.2]? = some p.1 ∧ findP l p.1 = some p ∧ d ∈ p.2.1 ∧ (namesH l)[x.1]? = some d
def stepsH (l : List PatV) : List (Nat × Nat) := (List.range (namesH l).length).flatMap fun j => match (namesH l)[j]?.bind (findP l) with | some p => stepsOf (namesH l) j p | none => []
theorem mem_stepsH {l : List PatV} {x : Nat × Nat} : x ∈ stepsH l ↔ HangE l x := by
  unfold stepsH HangE
  rw [List.mem_flatMap]
  constructor
  · rintro ⟨j, hj, hx⟩
    cases hn : (namesH l)[j]? with
    | none => rw [hn] at hx; simp at hx
    | some d =>
      rw [hn] at hx
      cases hf : findP l d with
      | none => simp [hf] at hx
      | some p =>
        simp only [Option.bind_some, hf] at hx
        obtain ⟨e, d', hd', h3⟩ := (mem_stepsOf (namesH_nodup l)).1 hx
        obtain ⟨_, e2⟩ := findP_some hf
        exact ⟨p, d', by rw [e, hn, e2], by rw [e2]; exact hf, hd', h3⟩
  · rintro ⟨p, d, h1, h2, h3, h4⟩
    refine ⟨x.2, List.mem_range.2 (List.getElem?_eq_some_iff.1 h1).1, ?_⟩
    rw [h1]
    simp only [Option.bind_some, h2]
    exact (mem_stepsOf (namesH_nodup l)).2 ⟨rfl, d, h3, h4⟩
def relH (l : List PatV) : Nat → Nat → Bool := clo ((stepsH l).map (·.1)) (memL (stepsH l))
theorem relH_iff (l : List PatV) (a b : Nat) : relH l a b = true ↔ ViaL (stepsH l) a b := by
  unfold relH
  refine (clo_iff (fun a b h => ?_) a b).trans (Via.congr fun x y => by unfold memL; simp)
  unfold memL at h
  exact List.mem_map.2 ⟨(a, b), by simpa using h, rfl⟩
theorem viaL_congr {L L' : List (Nat × Nat)} (h : ∀ x, x ∈ L ↔ x ∈ L') (a b : Nat) : ViaL L a b ↔ ViaL L' a b := Via.congr fun x y => h (x, y)
theorem relH_of {l : List PatV} {L : List (Nat × Nat)} (h : ∀ x, x ∈ L ↔ HangE l x) (a b : Nat) : relH l a b = true ↔ ViaL L a b :=
  (relH_iff l a b).trans (viaL_congr (fun x => by rw [h, mem_stepsH]) a b)
theorem rel_eq {R R' : Nat → Nat → Bool} {L : List (Nat × Nat)} (h : ∀ a b, R a b = true ↔ ViaL L a b) (h' : ∀ a b, R' a b = true ↔ ViaL L a b) : R = R' := by
  funext a b
  rw [Bool.eq_iff_iff, h, h']
theorem hangE_lt {l : List PatV} {x : Nat × Nat} (h : HangE l x) : x.1 < (namesH l).length ∧ x.2 < (namesH l).length := by
  obtain ⟨p, d, h1, _, _, h4⟩ := h
  exact ⟨(List.getElem?_eq_some_iff.1 h4).1, (List.getElem?_eq_some_iff.1 h1).1⟩
theorem relH_trans (l : List PatV) : TransR (namesH l).length (relH l) :=
  ⟨fun h1 h2 => (relH_iff l _ _).2 (((relH_iff l _ _).1 h1).trans trivial ((relH_iff l _ _).1 h2)),
   fun h => via_lt (fun _ hx => hangE_lt (mem_stepsH.1 hx)) ((relH_iff l _ _).1 h)⟩
/-- the same patches in another order -/
theorem hangE_perm {l l' : List PatV} (hn : namesH l = namesH l') (hf : ∀ d, findP l d = findP l' d) (x : Nat × Nat) : HangE l x ↔ HangE l' x := by
  unfold HangE
  rw [hn]
  constructor
  · rintro ⟨p, d, h1, h2, h3⟩; exact ⟨p, d, h1, by rw [← hf]; exact h2, h3⟩
  · rintro ⟨p, d, h1, h2, h3⟩; exact ⟨p, d, h1, by rw [hf]; exact h2, h3⟩
theorem relH_perm {l l' : List PatV} (hn : namesH l = namesH l') (hf : ∀ d, findP l d = findP l' d) : relH l = relH l' :=
  rel_eq (relH_iff l) fun a b => (relH_of (fun x => (mem_stepsH (l := l)).trans (hangE_perm hn hf x)) a b)
/-- the steps of the first patches -/
def progS (D : List PidV) (l : List PatV) : Nat → List (Nat × Nat)
  | 0 => []
  | k + 1 => progS D l k ++ (match l[k]? with | some p => if p.1 ∈ (l.take k).map (·.1) then [] else stepsOf D (D.idxOf p.1) p | none => [])
theorem progS_mem (D : List PidV) (l : List PatV) (x : Nat × Nat) : ∀ k, x ∈ progS D l k ↔ ∃ j p, j < k ∧ l[j]? = some p ∧ p.1 ∉ (l.take j).map (·.1) ∧ x ∈ stepsOf D (D.idxOf p.1) p
  | 0 => by simp [progS]
  | k + 1 => by
    unfold progS
    rw [List.mem_append, progS_mem D l x k]
    constructor
    · rintro (⟨j, p, h1, h2⟩ | h)
      · exact ⟨j, p, by omega, h2⟩
      · cases hk : l[k]? with
        | none => rw [hk] at h; cases h
        | some p =>
          rw [hk] at h
          simp only at h
          split at h
          · cases h
          · rename_i hn; exact ⟨k, p, by omega, hk, hn, h⟩
    · rintro ⟨j, p, h1, h2, h3, h4⟩
      rcases Nat.lt_or_ge j k with h5 | h5
      · exact .inl ⟨j, p, h5, h2, h3, h4⟩
      · obtain rfl : j = k := by omega
        right
        rw [h2]
        simp only
        rw [if_neg h3]; exact h4
theorem findP_first {l : List PatV} {j : Nat} {p : PatV} (hj : l[j]? = some p) (hn : p.1 ∉ (l.take j).map (·.1)) : findP l p.1 = some p := by
  unfold findP
  rw [List.find?_eq_some_iff_append]
  obtain ⟨hj2, rfl⟩ := List.getElem?_eq_some_iff.1 hj
  refine ⟨by simp, l.take j, l.drop (j + 1), ?_, fun a ha => ?_⟩
  · rw [List.getElem_cons_drop, List.take_append_drop]
  · have : a.1 ≠ l[j].1 := fun e => hn (List.mem_map.2 ⟨a, ha, e⟩)
    simp [this]
theorem findP_place {l : List PatV} {d : PidV} {p : PatV} (h : findP l d = some p) : ∃ j : Nat, l[j]? = some p ∧ p.1 ∉ (l.take j).map (·.1) := by
  unfold findP at h
  obtain ⟨h1, l1, l2, rfl, h2⟩ := List.find?_eq_some_iff_append.1 h
  refine ⟨l1.length, by simp, ?_⟩
  rw [List.take_left]
  intro hm
  obtain ⟨a, ha, e⟩ := List.mem_map.1 hm
  have := h2 a ha
  simp only [decide_eq_true_eq] at h1
  simp [e, h1] at this
theorem progS_all (l : List PatV) (x : Nat × Nat) : x ∈ progS (namesH l) l l.length ↔ HangE l x := by
  have hD := namesH_nodup l
  rw [progS_mem]
  unfold HangE
  constructor
  · rintro ⟨j, p, h1, h2, h3, h4⟩
    obtain ⟨e, d, hd, h5⟩ := (mem_stepsOf hD).1 h4
    have hm : p.1 ∈ namesH l := (namesH_mem l _).2 ⟨p, List.mem_of_getElem? h2, rfl⟩
    have hi := List.idxOf_lt_length_of_mem hm
    exact ⟨p, d, by rw [e, List.getElem?_eq_getElem hi, List.getElem_idxOf hi], findP_first h2 h3, hd, h5⟩
  · rintro ⟨p, d, h1, h2, h3, h4⟩
    obtain ⟨j, hj, hn⟩ := findP_place h2
    refine ⟨j, p, (List.getElem?_eq_some_iff.1 hj).1, hj, hn, (mem_stepsOf hD).2 ⟨?_, d, h3, h4⟩⟩
    obtain ⟨hx, e⟩ := List.getElem?_eq_some_iff.1 h1
    rw [← e, hD.idxOf_getElem _ hx]
def namesAt (D : List PidV) (F : List Nat) : List PidV := F.filterMap (D[·]?)
theorem namesAt_snoc {D : List PidV} {F : List Nat} {i : Nat} {d : PidV} (h : D[i]? = some d) : namesAt D (F ++ [i]) = namesAt D F ++ [d] := by
  unfold namesAt
  rw [List.filterMap_append]
  simp [h]
end Go.Proofs.YtihggkmjalofiaaGreatDoor

/- Which patches hang on which, as it lies; the names of whose places something holds: walked. -/
namespace Go.Proofs.YtihggkmjalofiaaGreatDoor
open Go.RowKit

def hangC (A : Option Addr) (n c gm gr : Nat) : Array Value := #[.slice A n c, .map (some gm), .pointer (some ⟨gr, 0, none⟩)]
def nameM (D : List PidV) : List (Value × Value) := D.mapIdx fun i d => (.agg (encP d).toArray, .int .i64 ((i : Nat) : Int))
/-- it as it lies -/
structure HangAt (w : World) (g : Nat) (D : List PidV) (R : Nat → Nat → Bool) : Prop where
  nodup : D.Nodup
  few : D.length ≤ 65536
  trans : TransR D.length R
  ex : ∃ A c gm gr, Blk w g 335 (hangC A D.length c gm gr) ∧ w.ownsRow 0 27 2 (.slice A D.length c) D.length (D.flatMap encP) ∧ MapIs Tryz.prog 27 w gm (nameM D) ∧ RelAt w gr D.length R
theorem HangAt.ext {w w' : World} {g : Nat} {D : List PidV} {R : Nat → Nat → Bool} (h : HangAt w g D R) (hb : Below w.heap.size w w') : HangAt w' g D R := by
  obtain ⟨h1, h2, h0, A, c, gm, gr, h3, h4, h5, h6⟩ := h
  exact ⟨h1, h2, h0, A, c, gm, gr, h3.ext hb, own_ext h4 hb, h5.ext hb, h6.ext hb⟩
theorem HangAt.lt {w : World} {g : Nat} {D : List PidV} {R : Nat → Nat → Bool} (h : HangAt w g D R) : g < w.heap.size := by
  obtain ⟨h1, h2, h0, A, c, gm, gr, h3, h4, h5, h6⟩ := h
  exact h3.lt
theorem encP_all (x : PidV) : ((encP x).toArray).all (·.oneCell') = true := by simp [encP, Value.oneCell']
theorem patC_all (id : PidV) (A : Option Addr) (n c : Nat) (A' : Option Addr) (n' c' : Nat) : ((patC id A n c A' n' c').toArray).all (·.oneCell') = true := by simp [patC, Value.oneCell']
theorem own_pids {w : World} {base n c : Nat} {A : Option Addr} {l : List PidV} (h : w.ownsRow base 27 2 (.slice A n c) n (l.flatMap encP)) (hn : l.length = n) : PidsAt w A n l := by
  obtain ⟨A', c', e, _, p⟩ := PidsAt.of_own h hn
  cases e; exact p
theorem nameM_key {D : List PidV} {d : PidV} {v : Value} (h : ((Value.agg (encP d).toArray), v) ∈ nameM D) : ∃ i : Nat, D[i]? = some d ∧ v = .int .i64 (i : Int) := by
  obtain ⟨i, hi, e⟩ := List.getElem_of_mem h
  unfold nameM at hi e
  rw [List.getElem_mapIdx] at e
  rw [List.length_mapIdx] at hi
  injection e with e1 e2
  exact ⟨i, by rw [List.getElem?_eq_getElem hi, encP_inj e1], e2.symm⟩
theorem nameM_none {D : List PidV} {d : PidV} (h : ∀ q ∈ nameM D, q.1 ≠ .agg (encP d).toArray) : d ∉ D := by
  intro hd
  obtain ⟨i, hi, rfl⟩ := List.getElem_of_mem hd
  refine h (.agg (encP D[i]).toArray, .int .i64 ((i : Nat) : Int)) ?_ rfl
  unfold nameM
  rw [List.mem_iff_getElem]
  exact ⟨i, by simpa using hi, by simp⟩
theorem nameM_snoc (D : List PidV) (d : PidV) : nameM (D ++ [d]) = nameM D ++ [(.agg (encP d).toArray, .int .i64 ((D.length : Nat) : Int))] := by
  unfold nameM; rw [List.mapIdx_append]; simp
end Go.Proofs.YtihggkmjalofiaaGreatDoor

/- What hangs on what: Above, Below, Without, Heads, Order: walked. -/
namespace Go.Proofs.YtihggkmjalofiaaGreatDoor
open Go.RowKit

theorem namesAt_len (D : List PidV) (F : List Nat) : (namesAt D F).length ≤ F.length := List.length_filterMap_le _ _
set_option maxRecDepth 100000 in
set_option maxHeartbeats 4000000 in
theorem horder48_any {w : World} {g : Nat} {D : List PidV} {R : Nat → Nat → Bool} (h : HangAt w g D R) :
    Calls Tryz.prog 174 #[.pointer (some ⟨g, 0, none⟩)] w (OwnedRet w 27 2 (namesAt D (ordR R D.length)).length ((namesAt D (ordR R D.length)).flatMap encP)) := by
  have hf := h.few
  obtain ⟨h1, h2, h0, A, c, gm, gr, hB, hP, hM, hR⟩ := h
  have y2 : w.cell? ⟨g, 2, none⟩ = some (.pointer (some ⟨gr, 0, none⟩)) := hB.cell 2
  have KB := Lib.hid hB
  have P := Lib.hid (own_pids hP rfl)
  have HO := Lib.hid (order9_any hR h0)
  have OL := Lib.hid ((ordR_told h0).1)
  have OM := (ordR_told h0).2
  clear hB hP hM hR h1 h0
  generalize ordR R D.length = F at *
  go_enter Tryz.func174, Tryz.ntmps174
  go_wp2_with fail
  refine HO.out.mono ?_
  rintro e w1 ⟨A1, c1, rfl, o1, b1⟩
  have O1 := Lib.hid o1
  have B1 := Lib.hid b1
  have P1 := Lib.hid (P.out.ext b1)
  have K1 := Lib.hid (KB.out.ext b1)
  have BR := Lib.hid (Below.refl w1.heap.size w1)
  clear o1 b1 y2 KB P HO
  go_wp2_with fail
  go_loopw [14, 3] (fun v s wr => ∃ k : Nat, k ≤ F.length ∧ v = .int .i64 k ∧ Hid (wr.ownsRow w1.heap.size 27 2 s (namesAt D (F.take k)).length ((namesAt D (F.take k)).flatMap encP)) ∧ Hid (Below w1.heap.size w1 wr)) (fun v _ _ => F.length - (intOf v).toNat)
  case atStart => exact ⟨0, by omega, rfl, World.ownsRow_nil _ _ _ _, BR.out⟩
  case round =>
    clear BR
    obtain ⟨k, hk, rfl, O, B⟩ := hrel
    have hk0 : (0 : Int) ≤ (k : Int) := by omega
    by_cases hlt : k < F.length
    · have hlk : (k : Int) < (F.length : Int) := by omega
      obtain ⟨bo, oo, rfl, hb1, hc1⟩ := encN_at (own_ext O1.out B.out) hlt
      have HT : Hid (F.take (k + 1) = F.take k ++ [F[k]]) := by rw [Hid, List.take_add_one, List.getElem?_eq_getElem hlt]; rfl
      have hxl : F[k] < D.length := OL.out.lt _ (List.getElem_mem hlt)
      have hnl := namesAt_len D (F.take k)
      rw [List.length_take] at hnl
      generalize F[k] = i at *
      have PB := Lib.hid (P1.out.ext B.out)
      have hi0 : (0 : Int) ≤ (i : Int) := by omega
      have hik : (i : Int) < (D.length : Int) := by omega
      obtain ⟨b, o, x, rfl, hb, hx, r⟩ := PB.out.at_ hxl
      have RR := Lib.hid r
      have y0 : wr.cell? ⟨g, 0, none⟩ = some (.slice (some ⟨b, o, none⟩) D.length c) := (K1.out.ext B.out).cell 0
      have E : Hid (namesAt D (F.take (k + 1)) = namesAt D (F.take k) ++ [x]) := by rw [Hid, HT.out]; exact namesAt_snoc hx
      have hbs := B.out.size
      clear r hx hb PB hb1
      go_wp2_with (first
        | (refine wpList_load_mid rfl 27 _ (by rfl) b (o + i * 2) (by rfl) _ _ RR.out underPid rfl infoPid ?_)
        | (refine wpList_lit1 pidSl (encP_len x) (by omega) (by rfl) ?_)
        | (at_builtin; refine wpList_push pidSl O.out (encP x) rfl (encP_one x) hbs (by omega) (by unfold maxLen; omega) (by rfl) (by rfl) (by rfl) ?_; intro v1 w5 own1 bel1))
      have B5 := Lib.hid (B.out.trans bel1)
      have O5 : Hid (w5.ownsRow w1.heap.size 27 2 v1 (namesAt D (F.take (k + 1))).length ((namesAt D (F.take (k + 1))).flatMap encP)) := by
        rw [Hid, E.out, flat_snocP, List.length_append]; exact own1
      clear own1 bel1 O B y0 hc1 RR
      go_roundw
      case rel => exact ⟨k + 1, by omega, by go_num, O5.out, B5.out⟩
      case measure => simp [intOf]; omega
    · have hlk : ¬ (k : Int) < (F.length : Int) := by omega
      rw [List.take_of_length_le (by omega)] at O
      have O5 := Lib.hid (own_rebase (base' := w.heap.size) O.out fun k e => Nat.le_trans B1.out.size (O.out.lt k e).1)
      have B5 := Lib.hid (B1.out.trans (B.out.mono B1.out.size))
      go_wp2
      go_ret
      exact ⟨_, rfl, O5.out, B5.out⟩
end Go.Proofs.YtihggkmjalofiaaGreatDoor

/- Which patches hang on which is made out of patches: walked. -/
namespace Go.Proofs.YtihggkmjalofiaaGreatDoor
open Go.RowKit
open Go.MapKept
open Go.ChangeMaps (setBlock)

theorem buildH (gm : Nat) (w : World) : (Instr.build 335 #[(1, .map (some gm))]).run Tryz.prog w = .ok (.agg #[.slice none 0 0, .map (some gm), .pointer none]) w := by kernel_rfl
theorem fieldH (g i : Nat) (hi : i < 3) (w : World) : (Instr.fieldAt 335 (.pointer (some ⟨g, 0, none⟩)) i).run Tryz.prog w = .ok (.pointer (some ⟨g, i, none⟩)) w := by
  match i, hi with
  | 0, _ => simp [go_sem]
  | 1, _ => simp [go_sem]
  | 2, _ => simp [go_sem]
theorem loadNames (b o : Nat) (w : World) (A : Option Addr) (n c : Nat) (h : w.cell? ⟨b, o, none⟩ = some (.slice A n c)) : (Instr.loadAt 28 (.pointer (some ⟨b, o, none⟩))).run Tryz.prog w = .ok (.slice A n c) w := by simp [go_sem, h]
theorem storeNames (b o : Nat) (w : World) (A : Option Addr) (n c : Nat) {u : Value} (h : w.cell? ⟨b, o, none⟩ = some u) (hf : w.frozen? ⟨b, o, none⟩ = false) : (Instr.storeAt 28 (.pointer (some ⟨b, o, none⟩)) (.slice A n c)).run Tryz.prog w = .ok () (w.setCell ⟨b, o, none⟩ (.slice A n c)) := by simp [go_sem, h, hf]
theorem loadMapI (b o : Nat) (w : World) (gm : Nat) (h : w.cell? ⟨b, o, none⟩ = some (.map (some gm))) : (Instr.loadAt 167 (.pointer (some ⟨b, o, none⟩))).run Tryz.prog w = .ok (.map (some gm)) w := by simp [go_sem, h]
theorem buildS2 (i j : Nat) (w : World) : (Instr.build 338 #[(0, .int .i64 (i : Int)), (1, .int .i64 (j : Int))]).run Tryz.prog w = .ok (.agg (encS (i, j)).toArray) w := by
  unfold encS
  simp [go_sem, Instr.build]
def keyN (d : PidV) : Value := .agg (encP d).toArray
theorem keyN_inj : ∀ x y, keyN x = keyN y → x = y := fun _ _ h => encP_inj h
/-- how often a name was seen -/
structure SeenAt (w : World) (gs : Nat) (N : List PidV) (E : List (Value × Value)) : Prop where
  map : MapIs Tryz.prog 27 w gs E
  keys : E.map (·.1) = (uniqU N).map keyN
  vals : ∀ e ∈ E, ∃ z : Int, e.2 = .int .i64 z ∧ 1 ≤ z ∧ z ≤ (N.length : Int)
theorem SeenAt.ext {w w' : World} {gs : Nat} {N : List PidV} {E : List (Value × Value)} (h : SeenAt w gs N E) (hb : Below w.heap.size w w') : SeenAt w' gs N E := ⟨h.map.ext hb, h.keys, h.vals⟩
/-- it while it is made -/
structure HgSt (w wr : World) (gm gh : Nat) (s : Value) (E : List (Value × Value)) : Prop where
  blk : Blk wr gh 335 #[s, .map (some gm), .pointer none]
  map : MapIs Tryz.prog 27 wr gm E
  below : Below w.heap.size w wr
  ge : w.heap.size ≤ gm ∧ w.heap.size ≤ gh
theorem HgSt.ext {w wr w' : World} {gm gh : Nat} {s : Value} {E : List (Value × Value)} (h : HgSt w wr gm gh s E) (hb : Below wr.heap.size wr w') : HgSt w w' gm gh s E := ⟨h.blk.ext hb, h.map.ext hb, h.below.trans (hb.mono h.below.size), h.ge⟩
def stepsK (D : List PidV) (j : Nat) (ds : List PidV) (k : Nat) : List (Nat × Nat) := (ds.take k).filterMap fun d => if d ∈ D then some (D.idxOf d, j) else none
theorem stepsK_yes {D : List PidV} (hD : D.Nodup) {j k i : Nat} {ds : List PidV} {d : PidV} (h : ds[k]? = some d) (hd : D[i]? = some d) : stepsK D j ds (k + 1) = stepsK D j ds k ++ [(i, j)] := by
  unfold stepsK
  obtain ⟨hi, rfl⟩ := List.getElem?_eq_some_iff.1 hd
  rw [List.take_add_one, h, List.filterMap_append]
  simp [List.getElem_mem hi, hD.idxOf_getElem i hi]
theorem stepsK_no {D : List PidV} {j k : Nat} {ds : List PidV} {d : PidV} (h : ds[k]? = some d) (hd : d ∉ D) : stepsK D j ds (k + 1) = stepsK D j ds k := by
  unfold stepsK
  rw [List.take_add_one, h, List.filterMap_append]
  simp [hd]
theorem stepsK_all (D : List PidV) (j : Nat) (x : PatV) : stepsK D j x.2.1 x.2.1.length = stepsOf D j x := by unfold stepsK stepsOf; rw [List.take_length]
theorem stepsK_len (D : List PidV) (j k : Nat) (ds : List PidV) : (stepsK D j ds k).length ≤ k := by
  unfold stepsK
  refine Nat.le_trans (List.length_filterMap_le _ _) ?_
  rw [List.length_take]; omega
theorem progS_old {D : List PidV} {l : List PatV} {k : Nat} {x : PatV} (h : l[k]? = some x) (hs : x.1 ∈ (l.take k).map (·.1)) : progS D l (k + 1) = progS D l k := by
  rw [progS, h]; simp only; rw [if_pos hs, List.append_nil]
theorem progS_new {D : List PidV} {l : List PatV} {k : Nat} {x : PatV} (h : l[k]? = some x) (hs : x.1 ∉ (l.take k).map (·.1)) : progS D l (k + 1) = progS D l k ++ stepsOf D (D.idxOf x.1) x := by
  rw [progS, h]; simp only; rw [if_neg hs]
/-- how many names patches name -/
def depsN (l : List PatV) : Nat := (l.map fun p => p.2.1.length).sum
theorem depsN_at {l : List PatV} {p : PatV} (h : p ∈ l) : p.2.1.length ≤ depsN l := by
  unfold depsN
  induction l with
  | nil => cases h
  | cons q l ih =>
    rw [List.map_cons, List.sum_cons]
    rcases List.mem_cons.1 h with rfl | h
    · omega
    · have := ih h
      omega
theorem depsN_le {l : List PatV} {m : Nat} (h : ∀ p ∈ l, p.2.1.length ≤ m) : depsN l ≤ l.length * m := by
  unfold depsN
  induction l with
  | nil => simp
  | cons q l ih =>
    have h1 := ih fun p hp => h p (by simp [hp])
    have h2 := h q (by simp)
    rw [List.map_cons, List.sum_cons, List.length_cons, Nat.succ_mul]
    omega
theorem depsN_take (l : List PatV) (k : Nat) : depsN (l.take k) ≤ depsN l := by
  unfold depsN
  conv => rhs; rw [← List.take_append_drop k l]
  rw [List.map_append, List.sum_append]
  omega
theorem progS_sum0 (D : List PidV) (l : List PatV) : ∀ k, (progS D l k).length ≤ depsN (l.take k)
  | 0 => by simp [progS]
  | k + 1 => by
    have ih := progS_sum0 D l k
    cases hk : l[k]? with
    | none => rw [progS, hk]; simp only [List.append_nil]; exact Nat.le_trans ih (by rw [List.take_add_one, hk]; simp)
    | some p =>
      have hd : depsN (l.take (k + 1)) = depsN (l.take k) + p.2.1.length := by
        unfold depsN
        rw [List.take_add_one, hk, List.map_append, List.sum_append]
        simp
      by_cases hs : p.1 ∈ (l.take k).map (·.1)
      · rw [progS_old hk hs]; omega
      · rw [progS_new hk hs, List.length_append]
        have h1 := stepsK_len D (D.idxOf p.1) p.2.1.length p.2.1
        rw [stepsK_all] at h1
        omega
theorem progS_sum (D : List PidV) (l : List PatV) (k : Nat) : (progS D l k).length ≤ depsN l := Nat.le_trans (progS_sum0 D l k) (depsN_take l k)
theorem names_take {l : List PatV} {k : Nat} {x : PatV} (h : l[k]? = some x) : (l.take (k + 1)).map (·.1) = (l.take k).map (·.1) ++ [x.1] := by
  rw [List.take_add_one, h]; simp
theorem RelAt.keepB {w w' : World} {g n gh : Nat} {R : Nat → Nat → Bool} {cs : Array Value} (h : RelAt w g n R) (hb : Blk w gh 335 cs) (hk : Kept (fun k => k = gh) w w') : RelAt w' g n R := by
  obtain ⟨h0, gm, T, h1, h2, h3⟩ := h
  exact ⟨h0, gm, T, h1.keep (hk.block g h1.lt (blk_ne_blk h1 hb (by decide))), ⟨h2.map.keep (hk.block gm h2.map.lt (blk_ne_map hb h2.map).symm), fun r hr => (h2.row r hr).keep (hk.block _ (h2.row r hr).lt.1 (blk_ne_blk (h2.row r hr).blk hb (by decide))) (hk.block _ (h2.row r hr).lt.2 (own_ne_blk (h2.row r hr).own hb (by decide) rfl)), h2.cl, h2.lt, h2.ap⟩, h3⟩
def RetHang (w : World) (l : List PatV) (e : Ending) (w' : World) : Prop := ∃ g, e = .returned (.pointer (some ⟨g, 0, none⟩)) ∧ HangAt w' g (namesH l) (relH l) ∧ Below w.heap.size w w'
set_option maxRecDepth 100000 in
set_option maxHeartbeats 16000000 in
theorem of48_wide {w : World} {A : Option Addr} {n c : Nat} {l : List PatV} (h : PatsAt w A n l) (hm : n ≤ 10000) (hq : depsN l ≤ 900000) : Calls Tryz.prog 173 #[.slice A n c] w (RetHang w l) := by
  have PI := Lib.hid h.in_
  have HQ := Lib.hid hq
  have hln := Lib.hid (show l.length = n from h.1)
  clear h hq
  have M0 : Hid (MapIs Tryz.prog 27 ((w.alloc (.map #[] 0)).alloc (.cells #[.slice none 0 0, .map (some w.heap.size), .pointer none] 335)) w.heap.size []) := (MapIs.made _ _ _).alloc _
  have K0 : Hid (Blk ((w.alloc (.map #[] 0)).alloc (.cells #[.slice none 0 0, .map (some w.heap.size), .pointer none] 335)) (w.heap.size + 1) 335 #[.slice none 0 0, .map (some w.heap.size), .pointer none]) := Blk.newAt (by simp) _ _
  have B0 : Hid (Below w.heap.size w ((w.alloc (.map #[] 0)).alloc (.cells #[.slice none 0 0, .map (some w.heap.size), .pointer none] 335))) := ((Below.refl _ _).alloc (Nat.le_refl _) _).alloc (by simp) _
  have H0 : Hid (HgSt w ((w.alloc (.map #[] 0)).alloc (.cells #[.slice none 0 0, .map (some w.heap.size), .pointer none] 335)) w.heap.size (w.heap.size + 1) (.slice none 0 0) []) := ⟨K0.out, M0.out, B0.out, Nat.le_refl _, Nat.le_succ _⟩
  clear M0 K0 B0
  have hmk := makeI
  go_enter Tryz.func173, Tryz.ntmps173
  go_upto_region 3 with (refine wpList_built (buildH _ _) (by rfl) ?_)
  clear hmk
  generalize (w.alloc (.map #[] 0)).alloc (.cells #[.slice none 0 0, .map (some w.heap.size), .pointer none] 335) = w0 at *
  obtain ⟨gh, hgh⟩ : ∃ gh, gh = w.heap.size + 1 := ⟨_, rfl⟩
  obtain ⟨gm, hgm⟩ : ∃ gm, gm = w.heap.size := ⟨_, rfl⟩
  rw [← hgh, ← hgm] at H0
  rw [← hgh]
  clear hgh hgm
  have hgl : Hid (gm < w0.heap.size ∧ gh < w0.heap.size) := ⟨H0.out.map.lt, H0.out.blk.lt⟩
  have hB0 : Hid (w.heap.size ≤ w0.heap.size) := H0.out.below.size
  have G0 : Hid (w0.heap.size ≤ w0.heap.size) := Nat.le_refl _
  go_loopw [21] (fun v wr => ∃ (k c' : Nat) (A' : Option Addr), k ≤ n ∧ v = .int .i64 k ∧ Hid (HgSt w wr gm gh (.slice A' k c') []) ∧ Hid (wr.ownsRow w0.heap.size 27 2 (.slice A' k c') k (((l.take k).map (·.1)).flatMap encP)) ∧ Hid (w0.heap.size ≤ wr.heap.size)) (fun v _ => n - (intOf v).toNat)
  case atStart => exact ⟨0, 0, none, by omega, rfl, H0.out, World.ownsRow_nil _ _ _ _, G0.out⟩
  case round =>
    clear H0 G0
    obtain ⟨k, c', A', hk, rfl, HS, O, G⟩ := hrel
    have hk0 : (0 : Int) ≤ (k : Int) := by omega
    by_cases hlt : k < n
    · have hlk : (k : Int) < (n : Int) := by omega
      have PB := PI.out.stay (Stay.of_below HS.out.below)
      obtain ⟨b, o, x, r, rfl, hb, hx, pa, hr⟩ := PB.pat_ hlt
      obtain ⟨⟨A1, c1, A2, c2, rfl, _, _, _, _⟩, _, _⟩ := pa
      have R := Lib.hid hr
      have HX := Lib.hid hx
      have KZ : Hid (Blk (wr.alloc (.cells #[.int .u8 0, .int .u16 0, .slice none 0 0, .slice none 0 0] 31)) wr.heap.size 31 #[.int .u8 0, .int .u16 0, .slice none 0 0, .slice none 0 0]) := Blk.new _ _ _
      have KN : Hid (Blk ((wr.alloc (.cells #[.int .u8 0, .int .u16 0, .slice none 0 0, .slice none 0 0] 31)).setRow wr.heap.size (patC x.1 A1 x.2.1.length c1 A2 x.2.2.length c2).toArray) wr.heap.size 31 (patC x.1 A1 x.2.1.length c1 A2 x.2.2.length c2).toArray) := KZ.out.row _
      have BN : Hid (Below wr.heap.size wr ((wr.alloc (.cells #[.int .u8 0, .int .u16 0, .slice none 0 0, .slice none 0 0] 31)).setRow wr.heap.size (patC x.1 A1 x.2.1.length c1 A2 x.2.2.length c2).toArray)) := below_setRow (below_new wr _) (Nat.le_refl _) _
      have HS3 := Lib.hid (HS.out.ext BN.out)
      have O3 := Lib.hid (own_ext O.out BN.out)
      have hbs3 : Hid (w0.heap.size ≤ ((wr.alloc (.cells #[.int .u8 0, .int .u16 0, .slice none 0 0, .slice none 0 0] 31)).setRow wr.heap.size (patC x.1 A1 x.2.1.length c1 A2 x.2.2.length c2).toArray).heap.size) := Nat.le_trans G.out BN.out.size
      clear hr hx hb
      go_upto_region 5 with (first
        | (refine wpList_load_mid rfl 31 _ (by rfl) b (o + k * 4) (by rfl) _ _ R.out underPat rfl infoPat ?_)
        | (refine wpList_store_row rfl 31 _ _ (by rfl) wr.heap.size (patC x.1 A1 x.2.1.length c1 A2 x.2.2.length c2).toArray (by rfl) (by rfl) _ _ KZ.out infoPat rfl (patC_all ..) ?_))
      generalize (wr.alloc (.cells #[.int .u8 0, .int .u16 0, .slice none 0 0, .slice none 0 0] 31)).setRow wr.heap.size (patC x.1 A1 x.2.1.length c1 A2 x.2.2.length c2).toArray = w3 at *
      clear KZ O BN R HS G
      obtain ⟨gp, hgp⟩ : ∃ gp, gp = wr.heap.size := ⟨_, rfl⟩
      rw [← hgp] at KN ⊢
      clear hgp
      refine wp_region_Z (S := fun w' => Blk w' gh 335 #[.slice A' k c', .map (some gm), .pointer none] ∧ Blk w' gp 31 (patC x.1 A1 x.2.1.length c1 A2 x.2.2.length c2).toArray) (Z := [11]) mixedS ?_
      have S9 : Hid (Blk w3.drew gh 335 #[.slice A' k c', .map (some gm), .pointer none] ∧ Blk w3.drew gp 31 (patC x.1 A1 x.2.1.length c1 A2 x.2.2.length c2).toArray) := ⟨HS3.out.blk, KN.out⟩
      have O9 : Hid (w3.drew.ownsRow w0.heap.size 27 2 (.slice A' k c') k (((l.take k).map (·.1)).flatMap encP)) := O3.out
      have HS9 : Hid (HgSt w w3.drew gm gh (.slice A' k c') []) := ⟨HS3.out.blk, HS3.out.map, HS3.out.below.drew, HS3.out.ge⟩
      have hbs9 : Hid (w0.heap.size ≤ w3.drew.heap.size) := hbs3.out
      clear HS3 O3 hbs3 KN
      generalize w3.drew = w9 at *
      simp only [List.size_toArray, List.length_cons, List.length_nil]
      refine zLight (i := 0) rfl (by kernel_rfl) (by kernel_rfl) (by kernel_rfl) (by kernel_rfl) (fun _ _ _ h => h) rfl (fun w' => exMove (v := .pointer (some ⟨gh, 0, none⟩)) rfl) (fun _ => S9.out) ?_
      simp only [Act.put, List.setIfInBounds_toArray, List.set_cons_zero, List.set_cons_succ]
      refine zLight (i := 1) rfl (by kernel_rfl) (by kernel_rfl) (by kernel_rfl) (by kernel_rfl) (fun _ _ _ h => h) rfl (fun w' => exMove (v := .pointer (some ⟨gh, 0, none⟩)) rfl) (fun _ => S9.out) ?_
      simp only [Act.put, List.setIfInBounds_toArray, List.set_cons_zero, List.set_cons_succ]
      refine zLight (i := 2) rfl (by kernel_rfl) (by kernel_rfl) (by kernel_rfl) (by kernel_rfl) (fun _ _ _ h => h) rfl (fun w' => exNil rfl) (fun _ => S9.out) ?_
      simp only [Act.put, List.setIfInBounds_toArray, List.set_cons_zero, List.set_cons_succ]
      refine zLight (i := 3) rfl (by kernel_rfl) (by kernel_rfl) (by kernel_rfl) (by kernel_rfl) (fun _ _ _ h => h) rfl (fun w' => exField rfl (fieldH gh 0 (by omega) w')) (fun _ => S9.out) ?_
      simp only [Act.put, List.setIfInBounds_toArray, List.set_cons_zero, List.set_cons_succ]
      refine zV (i := 4) rfl (by kernel_rfl) (by kernel_rfl) (by kernel_rfl) (by kernel_rfl) (by kernel_rfl) (fun _ _ _ h => h) rfl (fun w' h => exLoad rfl (loadNames gh 0 w' _ _ _ (h.1.cell 0))) S9.out ?_
      simp only [Act.put, List.setIfInBounds_toArray, List.set_cons_zero, List.set_cons_succ]
      refine zLight (i := 5) rfl (by kernel_rfl) (by kernel_rfl) (by kernel_rfl) (by kernel_rfl) (fun _ _ _ h => h) rfl (fun w' => exField rfl (fieldPat0 gp w')) (fun _ => S9.out) ?_
      simp only [Act.put, List.setIfInBounds_toArray, List.set_cons_zero, List.set_cons_succ]
      refine zV (i := 6) rfl (by kernel_rfl) (by kernel_rfl) (by kernel_rfl) (by kernel_rfl) (by kernel_rfl) (fun _ _ _ h => h) rfl (fun w' h => exMid rfl (patC_pid h.2) underPid rfl infoPid) S9.out ?_
      simp only [Act.put, List.setIfInBounds_toArray, List.set_cons_zero, List.set_cons_succ]
      refine wpAnyZ_all (rs := [7]) (by kernel_rfl) (by simp) ?_
      intro i hi
      simp only [List.mem_cons, List.not_mem_nil, or_false] at hi
      subst hi
      refine wpOp_of rfl rfl (wp_lit1 pidSl (cs := encP x.1) rfl (by omega) rfl ?_)
      refine ⟨fun _ => ⟨S9.out.1.alloc _, S9.out.2.alloc _⟩, ?_⟩
      simp only [Act.put, List.setIfInBounds_toArray, List.set_cons_zero, List.set_cons_succ]
      refine wpAnyZ_all (rs := [8]) (by kernel_rfl) (by simp) ?_
      intro i hi
      simp only [List.mem_cons, List.not_mem_nil, or_false] at hi
      subst hi
      refine wpOp_of rfl rfl (wp_pushF pidSl O9.out (encP x.1) rfl (encP_one _) hbs9.out (by omega) (by unfold maxLen; omega) rfl rfl rfl ?_)
      intro v1 w6 own1 kp hv1
      have S6 : Hid (Blk w6 gh 335 #[.slice A' k c', .map (some gm), .pointer none] ∧ Blk w6 gp 31 (patC x.1 A1 x.2.1.length c1 A2 x.2.2.length c2).toArray) := ⟨S9.out.1.keep (kp.block gh S9.out.1.lt fun e => own_ne_blk O9.out S9.out.1 (by decide) e rfl), S9.out.2.keep (kp.block gp S9.out.2.lt fun e => own_ne_blk O9.out S9.out.2 (by decide) e rfl)⟩
      refine ⟨fun _ => S6.out, ?_⟩
      simp only [Act.put, List.setIfInBounds_toArray, List.set_cons_zero, List.set_cons_succ]
      obtain ⟨A6, c6, rfl, _, _⟩ := Sl.of_own own1
      refine zLight (i := 9) rfl (by kernel_rfl) (by kernel_rfl) (by kernel_rfl) (by kernel_rfl) (fun _ _ _ h => h) rfl (fun w' => exNil rfl) (fun _ => S6.out) ?_
      simp only [Act.put, List.setIfInBounds_toArray, List.set_cons_zero, List.set_cons_succ]
      refine zLight (i := 10) rfl (by kernel_rfl) (by kernel_rfl) (by kernel_rfl) (by kernel_rfl) (fun _ _ _ h => h) rfl (fun w' => exField rfl (fieldH gh 0 (by omega) w')) (fun _ => S6.out) ?_
      simp only [Act.put, List.setIfInBounds_toArray, List.set_cons_zero, List.set_cons_succ]
      refine wpAnyZ_all (rs := [11]) (by kernel_rfl) (by simp) ?_
      intro i hi
      simp only [List.mem_cons, List.not_mem_nil, or_false] at hi
      subst hi
      refine wpOp_of rfl rfl (wpStored1 rfl rfl (storeNames gh 0 w6 _ _ _ (S6.out.1.cell 0) (S6.out.1.fr 0)) ?_)
      refine ⟨noZ (by kernel_rfl), ?_⟩
      refine wpAnyZ_done (by kernel_rfl) ?_ _
      have K7 : Hid (Blk (w6.setCell ⟨gh, 0, none⟩ (.slice A6 (k + 1) c6)) gh 335 #[.slice A6 (k + 1) c6, .map (some gm), .pointer none]) := S6.out.1.set_ 0 _
      have KK : Kept (fun k => k = gh) w6 (w6.setCell ⟨gh, 0, none⟩ (.slice A6 (k + 1) c6)) := (Kept.refl (fun k => k = gh) w6).setCell (p := ⟨gh, 0, none⟩) (.inl rfl) _
      have M6 : MapIs Tryz.prog 27 w6 gm [] := HS9.out.map.keep (kp.block gm HS9.out.map.lt fun e => own_ne_map O9.out HS9.out.map e rfl)
      have H7 : Hid (HgSt w (w6.setCell ⟨gh, 0, none⟩ (.slice A6 (k + 1) c6)) gm gh (.slice A6 (k + 1) c6) []) :=
        ⟨K7.out, M6.keep (KK.block gm M6.lt (blk_ne_map S6.out.1 M6).symm), (HS9.out.below.trans (kp.below (fun k e => Nat.le_trans hB0.out (O9.out.lt k e).1) HS9.out.below.size)).setCell (p := ⟨gh, 0, none⟩) HS9.out.ge.2 _, HS9.out.ge⟩
      have O7 : Hid ((w6.setCell ⟨gh, 0, none⟩ (.slice A6 (k + 1) c6)).ownsRow w0.heap.size 27 2 (.slice A6 (k + 1) c6) (k + 1) (((l.take (k + 1)).map (·.1)).flatMap encP)) := by
        rw [names_take HX.out, flat_snocP]
        exact own_keepF own1 fun g e => KK.block g (own1.lt g e).2 (own_ne_blk own1 S6.out.1 (by decide) e)
      have G7 : Hid (w0.heap.size ≤ (w6.setCell ⟨gh, 0, none⟩ (.slice A6 (k + 1) c6)).heap.size) := Nat.le_trans (Nat.le_trans hbs9.out kp.size) KK.size
      clear K7 KK M6 own1 kp hv1 S6 S9 O9 HS9 hbs9
      generalize (w6.setCell ⟨gh, 0, none⟩ (.slice A6 (k + 1) c6)) = w7 at *
      go_wp2_with fail
      go_roundw
      case rel => exact ⟨k + 1, c6, A6, by omega, by go_num, H7.out, O7.out, G7.out⟩
      case measure => simp [intOf]; omega
    · have hlk : ¬ (k : Int) < (n : Int) := by omega
      obtain rfl : n = k := by omega
      rw [List.take_of_length_le (by rw [hln.out]; exact Nat.le_refl _)] at O
      have HB := Lib.hid HS
      obtain ⟨A9, c9, e9, _, sl9⟩ := Sl.of_own O.out
      cases e9
      have hs := Lib.hid (setP (l.map (·.1)) wr A' n c' (by omega) ⟨by rw [List.length_map]; exact hln.out, sl9⟩)
      have y0 : wr.cell? ⟨gh, 0, none⟩ = some (.slice A' n c') := HS.out.blk.cell 0
      clear sl9 HB O
      go_wp2_with (first | fail)
      refine hs.out.mono ?_
      rintro e w2 ⟨vD, rfl, oD, bD⟩
      have HS2 := Lib.hid (HS.out.ext bD)
      have OD := Lib.hid oD
      have DN : Hid ((namesH l).Nodup) := namesH_nodup l
      have DL : (namesH l).length ≤ n := by have := namesH_len l; have := hln.out; omega
      have DE : Hid (setK keyP (l.map (·.1)) = namesH l) := rfl
      have DM : Hid (∀ p ∈ l, p.1 ∈ namesH l) := fun p hp => (namesH_mem l p.1).2 ⟨p, hp, rfl⟩
      rw [DE.out] at OD
      have PS : Hid (∀ x, x ∈ progS (namesH l) l n ↔ HangE l x) := fun x => by have := progS_all l x; rwa [hln.out] at this
      obtain ⟨AD, cD, rfl, _, _⟩ := Sl.of_own OD.out
      have y0 : w2.cell? ⟨gh, 0, none⟩ = some (.slice A' n c') := HS2.out.blk.cell 0
      have f0 : w2.frozen? ⟨gh, 0, none⟩ = false := HS2.out.blk.fr 0
      clear bD oD hs HS
      have K3 : Hid (Blk (w2.setCell ⟨gh, 0, none⟩ (.slice AD (namesH l).length cD)) gh 335 #[.slice AD (namesH l).length cD, .map (some gm), .pointer none]) := HS2.out.blk.set_ 0 _
      have KK : Kept (fun k => k = gh) w2 (w2.setCell ⟨gh, 0, none⟩ (.slice AD (namesH l).length cD)) := (Kept.refl (fun k => k = gh) w2).setCell (p := ⟨gh, 0, none⟩) (.inl rfl) _
      have HS3 : Hid (HgSt w (w2.setCell ⟨gh, 0, none⟩ (.slice AD (namesH l).length cD)) gm gh (.slice AD (namesH l).length cD) []) :=
        ⟨K3.out, HS2.out.map.keep (KK.block gm HS2.out.map.lt (blk_ne_map HS2.out.blk HS2.out.map).symm), HS2.out.below.setCell (p := ⟨gh, 0, none⟩) HS2.out.ge.2 _, HS2.out.ge⟩
      have OD3 : Hid ((w2.setCell ⟨gh, 0, none⟩ (.slice AD (namesH l).length cD)).ownsRow wr.heap.size 27 2 (.slice AD (namesH l).length cD) (namesH l).length ((namesH l).flatMap encP)) := own_keepF OD.out fun g e => KK.block g (OD.out.lt g e).2 (own_ne_blk OD.out HS2.out.blk (by decide) e)
      clear K3 KK HS2 OD
      go_upto_region 8 with fail
      generalize (w2.setCell ⟨gh, 0, none⟩ (.slice AD (namesH l).length cD)) = w3 at *
      clear y0 f0
      have PSL : Hid (∀ x ∈ progS (namesH l) l n, x.1 < (namesH l).length ∧ x.2 < (namesH l).length) := fun x hx => hangE_lt ((PS.out x).1 hx)
      have RG : Hid (∀ (g : Nat) (w' : World), HangAt w' g (namesH l) (relH l) → Below w.heap.size w w' → RetHang w l (.returned (.pointer (some ⟨g, 0, none⟩))) w') := fun g w' h1 h2 => ⟨g, rfl, h1, h2⟩
      have RTR := Lib.hid (relH_trans l)
      generalize namesH l = D at *
      have y0 : w3.cell? ⟨gh, 0, none⟩ = some (.slice AD D.length cD) := HS3.out.blk.cell 0
      have NM0 : Hid (HgSt w w3 gm gh (.slice AD D.length cD) (nameM (D.take 0))) := HS3.out
      have PI3 := Lib.hid (PI.out.stay (Stay.of_below HS3.out.below))
      go_wp2_with fail
      clear y0 HS3
      generalize wr.heap.size = w1s at *
      go_loopw [50] (fun v wr => ∃ k : Nat, k ≤ D.length ∧ v = .int .i64 k ∧ Hid (HgSt w wr gm gh (.slice AD D.length cD) (nameM (D.take k))) ∧ Hid (wr.ownsRow w1s 27 2 (.slice AD D.length cD) D.length (D.flatMap encP))) (fun v _ => D.length - (intOf v).toNat)
      case atStart => exact ⟨0, by omega, rfl, NM0.out, OD3.out⟩
      case round =>
        clear NM0 OD3 PI3
        obtain ⟨j, hj, rfl, HS, OD⟩ := hrel
        have hj0 : (0 : Int) ≤ (j : Int) := by omega
        by_cases hlt : j < D.length
        · have hlk : (j : Int) < (D.length : Int) := by omega
          obtain ⟨A9, c9, e9, _, PD⟩ := PidsAt.of_own OD.out rfl
          cases e9
          obtain ⟨b, o, d, rfl, hb, hd, hr⟩ := PD.at_ hlt
          have R := Lib.hid hr
          have HDd := Lib.hid hd
          have KZ : Hid (Blk (wr.alloc (.cells #[.int .u8 0, .int .u16 0] 27)) wr.heap.size 27 #[.int .u8 0, .int .u16 0]) := Blk.new _ _ _
          have KN : Hid (Blk ((wr.alloc (.cells #[.int .u8 0, .int .u16 0] 27)).setRow wr.heap.size (encP d).toArray) wr.heap.size 27 (encP d).toArray) := KZ.out.row _
          have BN : Hid (Below wr.heap.size wr ((wr.alloc (.cells #[.int .u8 0, .int .u16 0] 27)).setRow wr.heap.size (encP d).toArray)) := below_setRow (below_new wr _) (Nat.le_refl _) _
          have HS3 := Lib.hid (HS.out.ext BN.out)
          have OD3 := Lib.hid (own_ext OD.out BN.out)
          clear hr hb hd PD
          go_upto_region 11 with (first
            | (refine wpList_load_mid rfl 27 _ (by rfl) b (o + j * 2) (by rfl) _ _ R.out underPid rfl infoPid ?_)
            | (refine wpList_store_row rfl 27 _ _ (by rfl) wr.heap.size (encP d).toArray (by rfl) (by rfl) _ _ KZ.out infoPid rfl (encP_all _) ?_))
          generalize (wr.alloc (.cells #[.int .u8 0, .int .u16 0] 27)).setRow wr.heap.size (encP d).toArray = w4 at *
          clear KZ BN R HS OD
          obtain ⟨gp, hgp⟩ : ∃ gp, gp = wr.heap.size := ⟨_, rfl⟩
          rw [← hgp] at KN ⊢
          clear hgp
          have y1 : w4.cell? ⟨gh, 1, none⟩ = some (.map (some gm)) := HS3.out.blk.cell 1
          have K4 : Hid (∀ w', (∃ k, w' = w4.drewN k) → w'.rangeAt gp 0 (encP d)) := by rintro _ ⟨k, rfl⟩; exact KN.out.range
          try go_frame
          refine wp_region_drawn 6 (by kernel_rfl) (by kernel_rfl) ?_
          simp only [List.take_succ_cons, List.take_zero, List.drop_succ_cons, List.drop_zero]
          repeat (first
            | (refine wpQuiet_load_mid K4.out underPid rfl infoPid rfl rfl ?_; simp only [List.set_cons_succ, List.set_cons_zero])
            | go_big_quiet_step (fail))
          refine wpQuiet_nil ?_
          rintro _ ⟨nq, rfl⟩
          have HS5 : Hid (HgSt w (w4.drewN nq) gm gh (.slice (some ⟨b, o, none⟩) D.length cD) (nameM (D.take j))) := HS3.out.ext (below_drewN (Below.refl _ _) nq)
          have OD5 : Hid ((w4.drewN nq).ownsRow w1s 27 2 (.slice (some ⟨b, o, none⟩) D.length cD) D.length (D.flatMap encP)) := OD3.out
          clear HS3 OD3 K4 KN y1
          generalize w4.drewN nq = w5 at *
          obtain ⟨kl, hkl⟩ := kKeyP d
          obtain ⟨ob, l', hrun, hput, hmap⟩ := HS5.out.map.put (val := .int .i64 (j : Int)) kLawI kMapI hkl
          have hl' : Hid (l' = nameM (D.take (j + 1))) := by
            have e : D.take (j + 1) = D.take j ++ [d] := by rw [List.take_add_one, HDd.out]; rfl
            rw [e, nameM_snoc, List.length_take, Nat.min_eq_left (by omega)]
            rcases hput with ⟨_, e2⟩ | ⟨i, v0, hi, _⟩
            · exact e2
            · exfalso
              obtain ⟨i2, hi2, _⟩ := nameM_key (List.mem_of_getElem? hi)
              obtain ⟨h3, h4⟩ := List.getElem?_eq_some_iff.1 hi2
              have h5 : i2 < j := by rw [List.length_take] at h3; omega
              rw [List.getElem_take] at h4
              obtain ⟨h6, h7⟩ := List.getElem?_eq_some_iff.1 HDd.out
              have e1 := DN.out.idxOf_getElem i2 (by omega)
              have e2 := DN.out.idxOf_getElem j h6
              rw [h4] at e1
              rw [h7] at e2
              omega
          rw [hl'.out] at hmap
          have KB : Kept (fun k => k = gm) w5 (setBlock w5 gm ob) := Kept.setBlock (Kept.refl (fun k => k = gm) w5) (.inl rfl) ob
          have HS6 : Hid (HgSt w (setBlock w5 gm ob) gm gh (.slice (some ⟨b, o, none⟩) D.length cD) (nameM (D.take (j + 1)))) :=
            ⟨HS5.out.blk.keep (KB.block gh HS5.out.blk.lt (blk_ne_map HS5.out.blk HS5.out.map)), hmap, setBlock_below HS5.out.below HS5.out.ge.1 ob, HS5.out.ge⟩
          have OD6 : Hid ((setBlock w5 gm ob).ownsRow w1s 27 2 (.slice (some ⟨b, o, none⟩) D.length cD) D.length (D.flatMap encP)) := own_keepF OD5.out fun g e => KB.block g (OD5.out.lt g e).2 (own_ne_map OD5.out HS5.out.map e)
          have hrun := Lib.hid hrun
          clear hput hmap KB HS5 OD5 hkl
          generalize setBlock w5 gm ob = w6 at *
          go_wp2_with (refine wpList_mapput (by rfl) (by rfl) (by rfl) hrun.out ?_)
          go_roundw
          case rel => exact ⟨j + 1, by omega, by go_num, HS6.out, OD6.out⟩
          case measure => simp [intOf]; omega
        · have hlk : ¬ (j : Int) < (D.length : Int) := by omega
          rw [List.take_of_length_le (by omega)] at HS
          have hmk := makeI
          have S0 : Hid (SeenAt (wr.alloc (.map #[] 0)) wr.heap.size ((l.take 0).map (·.1)) []) := ⟨MapIs.made _ _ _, rfl, fun e he => by cases he⟩
          have B0 : Hid (Below wr.heap.size wr (wr.alloc (.map #[] 0))) := below_new _ _
          go_upto_region 15 with fail
          clear hmk hlt hlk hj0 hj
          obtain ⟨gs, hgs⟩ : ∃ gs, gs = wr.heap.size := ⟨_, rfl⟩
          rw [← hgs] at S0 B0 ⊢
          replace hgs := Lib.hid hgs
          have HSB := HS
          have ODB := OD
          clear HS OD
          generalize wr.alloc (.map #[] 0) = w7 at *
          have hbm : Hid (gm < gs ∧ gh < gs) := by rw [hgs.out]; exact ⟨HSB.out.map.lt, HSB.out.blk.lt⟩
          have OS0 : Hid (w7.ownsRow gs 338 2 (.slice none 0 0) (progS D l 0).length ((progS D l 0).flatMap encS)) := World.ownsRow_nil _ _ _ _
          go_wp2_with fail
          generalize wr = wb at *
          go_loopw [65, 8] (fun v s wr => ∃ (k : Nat) (E : List (Value × Value)), k ≤ n ∧ v = .int .i64 k ∧ Hid (SeenAt wr gs ((l.take k).map (·.1)) E) ∧ Hid (wr.ownsRow gs 338 2 s (progS D l k).length ((progS D l k).flatMap encS)) ∧ Hid (Below gs wb wr)) (fun v _ _ => n - (intOf v).toNat)
          case atStart => exact ⟨0, [], by omega, rfl, S0.out, OS0.out, B0.out⟩
          case round =>
            clear S0 B0 OS0
            obtain ⟨k, E, hk, rfl, SE, OS, BB⟩ := hrel
            have hk0 : (0 : Int) ≤ (k : Int) := by omega
            have BBs : Hid (Below wb.heap.size wb wr) := by rw [← hgs.out]; exact BB.out
            have HS := Lib.hid (HSB.out.ext BBs.out)
            by_cases hlt : k < n
            · have hlk : (k : Int) < (n : Int) := by omega
              obtain ⟨b, o, x, r, rfl, hb, hx, pa, hr⟩ := PI.out.pat_ hlt
              have HXQ := Nat.le_trans (depsN_at (List.mem_of_getElem? hx)) HQ.out
              obtain ⟨⟨A1, c1, A2, c2, rfl, pD1, _, iD1, _⟩, _, _⟩ := pa
              have PDw := Lib.hid pD1
              have IDw := Lib.hid iD1
              have R := Lib.hid (rangeAt_below hr HS.out.below hb)
              have HX := Lib.hid hx
              have HXM := Lib.hid (DM.out x (List.mem_of_getElem? hx))
              have KZ : Hid (Blk (wr.alloc (.cells #[.int .u8 0, .int .u16 0, .slice none 0 0, .slice none 0 0] 31)) wr.heap.size 31 #[.int .u8 0, .int .u16 0, .slice none 0 0, .slice none 0 0]) := Blk.new _ _ _
              have KN : Hid (Blk ((wr.alloc (.cells #[.int .u8 0, .int .u16 0, .slice none 0 0, .slice none 0 0] 31)).setRow wr.heap.size (patC x.1 A1 x.2.1.length c1 A2 x.2.2.length c2).toArray) wr.heap.size 31 (patC x.1 A1 x.2.1.length c1 A2 x.2.2.length c2).toArray) := KZ.out.row _
              have BN : Hid (Below wr.heap.size wr ((wr.alloc (.cells #[.int .u8 0, .int .u16 0, .slice none 0 0, .slice none 0 0] 31)).setRow wr.heap.size (patC x.1 A1 x.2.1.length c1 A2 x.2.2.length c2).toArray)) := below_setRow (below_new wr _) (Nat.le_refl _) _
              have SE3 := Lib.hid (SE.out.ext BN.out)
              have OS3 := Lib.hid (own_ext OS.out BN.out)
              have BB3 : Hid (Below gs wb ((wr.alloc (.cells #[.int .u8 0, .int .u16 0, .slice none 0 0, .slice none 0 0] 31)).setRow wr.heap.size (patC x.1 A1 x.2.1.length c1 A2 x.2.2.length c2).toArray)) := BB.out.trans (BN.out.mono (by rw [hgs.out]; exact BBs.out.size))
              have hgg : Hid (gs < wr.heap.size) := SE.out.map.lt
              clear hr hx hb pD1 iD1
              go_upto_region 18 with (first
                | (refine wpList_load_mid rfl 31 _ (by rfl) b (o + k * 4) (by rfl) _ _ R.out underPat rfl infoPat ?_)
                | (refine wpList_store_row rfl 31 _ _ (by rfl) wr.heap.size (patC x.1 A1 x.2.1.length c1 A2 x.2.2.length c2).toArray (by rfl) (by rfl) _ _ KZ.out infoPat rfl (patC_all ..) ?_))
              generalize (wr.alloc (.cells #[.int .u8 0, .int .u16 0, .slice none 0 0, .slice none 0 0] 31)).setRow wr.heap.size (patC x.1 A1 x.2.1.length c1 A2 x.2.2.length c2).toArray = w3 at *
              clear KZ BN R SE OS BB BBs HS
              obtain ⟨gp, hgp⟩ : ∃ gp, gp = wr.heap.size := ⟨_, rfl⟩
              rw [← hgp] at KN hgg ⊢
              clear hgp
              generalize hN : (l.take k).map (·.1) = N at *
              have hNl : N.length ≤ 10000 := by rw [← hN, List.length_map, List.length_take]; omega
              have HNN : Hid ((l.take (k + 1)).map (·.1) = N ++ [x.1]) := by rw [Hid, names_take HX.out, hN]
              have hkN : Hid (N.length = k) := by have := hln.out; rw [Hid, ← hN, List.length_map, List.length_take]; omega
              have PO : Hid (x.1 ∈ N → progS D l (k + 1) = progS D l k) := fun h => progS_old HX.out (by rw [hN]; exact h)
              have PN : Hid (x.1 ∉ N → progS D l (k + 1) = progS D l k ++ stepsOf D (D.idxOf x.1) x) := fun h => progS_new HX.out (by rw [hN]; exact h)
              have PLn : (progS D l k).length ≤ 900000 := Nat.le_trans (progS_sum D l k) HQ.out
              clear hN
              obtain ⟨kl, hkey⟩ := kKeyP x.1
              have hlen : E.length ≤ 10000 := by
                have h1 := congrArg List.length SE3.out.keys
                rw [List.length_map, List.length_map] at h1
                have := uniqU_len N
                omega
              obtain ⟨c0, st, o1, hget, hlook, hentry, hlook2, hstore⟩ := SE3.out.map.entry kLawI kMapI kZeroInt (by unfold maxLen; omega) hkey
              have hc0 := uniqNew keyN_inj (x := x.1) SE3.out.keys hget
              have hz : ∃ z : Int, c0 = .int .i64 z ∧ 0 ≤ z ∧ z ≤ (N.length : Int) ∧ ((x.1 ∉ N ∧ z = 0) ∨ (x.1 ∈ N ∧ 1 ≤ z)) := by
                rcases hc0 with ⟨h1, rfl⟩ | ⟨h1, h2⟩
                · exact ⟨0, rfl, by omega, by omega, .inl ⟨fun h => h1 ((uniqU_mem _ _).2 h), rfl⟩⟩
                · obtain ⟨z, hz, h3, h4⟩ := SE3.out.vals _ h2
                  exact ⟨z, hz, by omega, h4, .inr ⟨(uniqU_mem _ _).1 h1, h3⟩⟩
              obtain ⟨z, rfl, hz0, hz1, hzz⟩ := hz
              obtain ⟨o2, l', hst, hput, hmap⟩ := hstore (.int .i64 (z + 1))
              have PUT := Lib.hid hput
              have hlt1 : gs < w3.heap.size := SE3.out.map.lt
              have hl1 := Lib.hid (hlook w3.drew rfl)
              have he1 := Lib.hid (hentry w3.drew rfl)
              have hw2 : (setBlock w3.drew gs o1).heap[gs]? = some o1 := setBlock_heap hlt1
              have hl2 := Lib.hid (hlook2 _ hw2)
              have hs2 := Lib.hid (hst _ hw2)
              have MAP := Lib.hid (hmap (setBlock w3.drew gs o1) (by simpa [setBlock] using hlt1))
              have K2 : Kept (fun k => k = gs) w3 (setBlock (setBlock w3.drew gs o1) gs o2) := Kept.setBlock (Kept.setBlock (Kept.refl (fun k => k = gs) w3).drew (.inl rfl) o1) (.inl rfl) o2
              have BB5 : Hid (Below gs wb (setBlock (setBlock w3.drew gs o1) gs o2)) := setBlock_below (setBlock_below BB3.out.drew (Nat.le_refl _) _) (Nat.le_refl _) _
              have ha : ∀ u : World, (binOp .add 3 (.int .i64 z) (.int .i64 1)).run Tryz.prog u = .ok (.int .i64 (z + 1)) u := fun u => by
                have e : IntKind.i64.wrap (z + 1) = z + 1 := IntWalk.i64_in _ (by omega)
                simp [go_sem, e]
              have hg' : ∀ (u : World) (x y : Operand), (eqGuard .add 3 x y (.int .i64 z) (.int .i64 1)).run Tryz.prog u = .ok () u := fun u x y => by simp [eqGuard]
              have hgne : gp ≠ gs := by have := hgg.out; omega
              have KS1 : Hid (Blk w3.drew gp 31 (patC x.1 A1 x.2.1.length c1 A2 x.2.2.length c2).toArray) := KN.out
              have KS2 : Hid (Blk (setBlock w3.drew gs o1) gp 31 (patC x.1 A1 x.2.1.length c1 A2 x.2.2.length c2).toArray) := Blk.setBlock KN.out hgne _
              have KS3 : Hid (Blk (setBlock (setBlock w3.drew gs o1) gs o2) gp 31 (patC x.1 A1 x.2.1.length c1 A2 x.2.2.length c2).toArray) := Blk.setBlock (Blk.setBlock KN.out hgne _) hgne _
              have OS5 := Lib.hid (own_keepF OS3.out fun g e => K2.block g (OS3.out.lt g e).2 (own_ne_map OS3.out SE3.out.map e))
              have F1 := uniqKeep keyN_inj SE3.out.keys x.1 PUT.out
              have SE5 : Hid (SeenAt (setBlock (setBlock w3.drew gs o1) gs o2) gs (N ++ [x.1]) l') := by
                refine ⟨MAP.out, ?_, fun q hq => ?_⟩
                · rw [F1]
                  unfold uniqU
                  rw [List.foldl_append]; rfl
                · rw [List.length_append, List.length_singleton]
                  rcases PUT.out with ⟨_, rfl⟩ | ⟨j, v0, _, rfl⟩
                  · rcases List.mem_append.1 hq with hq | hq
                    · obtain ⟨y, h1, h2, h3⟩ := SE3.out.vals q hq; exact ⟨y, h1, h2, by omega⟩
                    · rw [List.mem_singleton] at hq; subst hq; exact ⟨z + 1, rfl, by omega, by omega⟩
                  · rcases List.mem_or_eq_of_mem_set hq with hq | rfl
                    · obtain ⟨y, h1, h2, h3⟩ := SE3.out.vals q hq; exact ⟨y, h1, h2, by omega⟩
                    · exact ⟨z + 1, rfl, by omega, by omega⟩
              obtain ⟨v3, hget3, hlook3⟩ := MAP.out.look kLawI kMapI kZeroInt hkey
              obtain rfl : v3 = .int .i64 (z + 1) := GetL.one MAP.out.apart hget3 (.inr (putL_mem PUT.out))
              have hl3 := Lib.hid (hlook3 _ rfl)
              have ZZ := Lib.hid hzz
              clear hstore hget hput hmap hkey hlook hentry hlook2 hst hw2 PUT hc0 hget3 hlook3 hzz F1 K2 SE3 OS3 BB3 KN MAP
              generalize (setBlock w3.drew gs o1) = w4 at *
              generalize (setBlock w4 gs o2) = w5 at *
              go_upto_region 18 with fail
              try go_frame
              go_cut [69] (fun s wx' => s = .map (some gs) ∧ wx' = w5)
              case first =>
                refine wp_region_held (S := fun w' => Blk w' gp 31 (patC x.1 A1 x.2.1.length c1 A2 x.2.2.length c2).toArray) mixedS ?_
                change wpAnyH _ _ _ _ _ _ _ _ w3.drew
                generalize w3.drew = wd at *
                simp only [List.size_toArray, List.length_cons, List.length_nil]
                refine takeV (i := 0) (d := 69) (v := .map (some gs)) rfl (by kernel_rfl) (by kernel_rfl) (by kernel_rfl) (fun _ _ _ h => h) rfl (fun _ _ => exMove (v := .map (some gs)) rfl) KS1.out ?_
                simp only [Act.put, List.setIfInBounds_toArray, List.set_cons_zero, List.set_cons_succ]
                refine takeV (i := 1) (d := 70) (v := .pointer (some ⟨gp, 0, none⟩)) rfl (by kernel_rfl) (by kernel_rfl) (by kernel_rfl) (fun _ _ _ h => h) rfl (fun w' _ => exField rfl (fieldPat0 gp w')) KS1.out ?_
                simp only [Act.put, List.setIfInBounds_toArray, List.set_cons_zero, List.set_cons_succ]
                refine takeV (i := 2) (d := 71) (v := .agg (encP x.1).toArray) rfl (by kernel_rfl) (by kernel_rfl) (by kernel_rfl) (fun _ _ _ h => h) rfl (fun w' h => exMid rfl (patC_pid h) underPid rfl infoPid) KS1.out ?_
                simp only [Act.put, List.setIfInBounds_toArray, List.set_cons_zero, List.set_cons_succ]
                refine wpAnyH_all (rs := [3, 5]) (by kernel_rfl) (by simp) ?_
                intro i hi
                simp only [List.mem_cons, List.not_mem_nil, or_false] at hi
                rcases hi with rfl | rfl
                · refine wpOp_of rfl rfl (wp_looked rfl rfl hl1.out ?_)
                  refine ⟨KS1.out, ?_⟩
                  simp only [Act.put, List.setIfInBounds_toArray, List.set_cons_zero, List.set_cons_succ]
                  refine wpAnyH_all (rs := [4, 5]) (by kernel_rfl) (by simp) ?_
                  intro i hi
                  simp only [List.mem_cons, List.not_mem_nil, or_false] at hi
                  rcases hi with rfl | rfl
                  · refine wpOp_of rfl rfl (wp_computed rfl rfl (hg' _ _ _) (ha _) ?_)
                    refine ⟨KS1.out, ?_⟩
                    simp only [Act.put, List.setIfInBounds_toArray, List.set_cons_zero, List.set_cons_succ]
                    refine wpAnyH_all (rs := [5]) (by kernel_rfl) (by simp) ?_
                    intro i hi
                    simp only [List.mem_cons, List.not_mem_nil, or_false] at hi
                    subst hi
                    refine wpOp_of rfl rfl (wp_entered rfl rfl he1.out ?_)
                    refine ⟨KS2.out, ?_⟩
                    simp only [Act.put, List.setIfInBounds_toArray, List.set_cons_zero, List.set_cons_succ]
                    refine wpAnyH_all (rs := [6]) (by kernel_rfl) (by simp) ?_
                    intro i hi
                    simp only [List.mem_cons, List.not_mem_nil, or_false] at hi
                    subst hi
                    refine wpOp_of rfl rfl (wp_extracted rfl rfl ?_)
                    refine ⟨KS2.out, ?_⟩
                    simp only [Act.put, List.setIfInBounds_toArray, List.set_cons_zero, List.set_cons_succ]
                    refine wpAnyH_all (rs := [7]) (by kernel_rfl) (by simp) ?_
                    intro i hi
                    simp only [List.mem_cons, List.not_mem_nil, or_false] at hi
                    subst hi
                    refine wpOp_of rfl rfl (wp_estored rfl rfl rfl hs2.out ?_)
                    refine ⟨KS3.out, ?_⟩
                    refine wpAnyH_done (by kernel_rfl) ?_ _
                    go_wp2_with fail
                    go_meet
                    exact ⟨rfl, rfl⟩
                  · refine wpOp_of rfl rfl (wp_entered rfl rfl he1.out ?_)
                    refine ⟨KS2.out, ?_⟩
                    simp only [Act.put, List.setIfInBounds_toArray, List.set_cons_zero, List.set_cons_succ]
                    refine wpAnyH_all (rs := [4, 6]) (by kernel_rfl) (by simp) ?_
                    intro i hi
                    simp only [List.mem_cons, List.not_mem_nil, or_false] at hi
                    rcases hi with rfl | rfl
                    · refine wpOp_of rfl rfl (wp_computed rfl rfl (hg' _ _ _) (ha _) ?_)
                      refine ⟨KS2.out, ?_⟩
                      simp only [Act.put, List.setIfInBounds_toArray, List.set_cons_zero, List.set_cons_succ]
                      refine wpAnyH_all (rs := [6]) (by kernel_rfl) (by simp) ?_
                      intro i hi
                      simp only [List.mem_cons, List.not_mem_nil, or_false] at hi
                      subst hi
                      refine wpOp_of rfl rfl (wp_extracted rfl rfl ?_)
                      refine ⟨KS2.out, ?_⟩
                      simp only [Act.put, List.setIfInBounds_toArray, List.set_cons_zero, List.set_cons_succ]
                      refine wpAnyH_all (rs := [7]) (by kernel_rfl) (by simp) ?_
                      intro i hi
                      simp only [List.mem_cons, List.not_mem_nil, or_false] at hi
                      subst hi
                      refine wpOp_of rfl rfl (wp_estored rfl rfl rfl hs2.out ?_)
                      refine ⟨KS3.out, ?_⟩
                      refine wpAnyH_done (by kernel_rfl) ?_ _
                      go_wp2_with fail
                      go_meet
                      exact ⟨rfl, rfl⟩
                    · refine wpOp_of rfl rfl (wp_extracted rfl rfl ?_)
                      refine ⟨KS2.out, ?_⟩
                      simp only [Act.put, List.setIfInBounds_toArray, List.set_cons_zero, List.set_cons_succ]
                      refine wpAnyH_all (rs := [4]) (by kernel_rfl) (by simp) ?_
                      intro i hi
                      simp only [List.mem_cons, List.not_mem_nil, or_false] at hi
                      subst hi
                      refine wpOp_of rfl rfl (wp_computed rfl rfl (hg' _ _ _) (ha _) ?_)
                      refine ⟨KS2.out, ?_⟩
                      simp only [Act.put, List.setIfInBounds_toArray, List.set_cons_zero, List.set_cons_succ]
                      refine wpAnyH_all (rs := [7]) (by kernel_rfl) (by simp) ?_
                      intro i hi
                      simp only [List.mem_cons, List.not_mem_nil, or_false] at hi
                      subst hi
                      refine wpOp_of rfl rfl (wp_estored rfl rfl rfl hs2.out ?_)
                      refine ⟨KS3.out, ?_⟩
                      refine wpAnyH_done (by kernel_rfl) ?_ _
                      go_wp2_with fail
                      go_meet
                      exact ⟨rfl, rfl⟩
                · refine wpOp_of rfl rfl (wp_entered rfl rfl he1.out ?_)
                  refine ⟨KS2.out, ?_⟩
                  simp only [Act.put, List.setIfInBounds_toArray, List.set_cons_zero, List.set_cons_succ]
                  refine wpAnyH_all (rs := [3, 6]) (by kernel_rfl) (by simp) ?_
                  intro i hi
                  simp only [List.mem_cons, List.not_mem_nil, or_false] at hi
                  rcases hi with rfl | rfl
                  · refine wpOp_of rfl rfl (wp_looked rfl rfl hl2.out ?_)
                    refine ⟨KS2.out, ?_⟩
                    simp only [Act.put, List.setIfInBounds_toArray, List.set_cons_zero, List.set_cons_succ]
                    refine wpAnyH_all (rs := [4, 6]) (by kernel_rfl) (by simp) ?_
                    intro i hi
                    simp only [List.mem_cons, List.not_mem_nil, or_false] at hi
                    rcases hi with rfl | rfl
                    · refine wpOp_of rfl rfl (wp_computed rfl rfl (hg' _ _ _) (ha _) ?_)
                      refine ⟨KS2.out, ?_⟩
                      simp only [Act.put, List.setIfInBounds_toArray, List.set_cons_zero, List.set_cons_succ]
                      refine wpAnyH_all (rs := [6]) (by kernel_rfl) (by simp) ?_
                      intro i hi
                      simp only [List.mem_cons, List.not_mem_nil, or_false] at hi
                      subst hi
                      refine wpOp_of rfl rfl (wp_extracted rfl rfl ?_)
                      refine ⟨KS2.out, ?_⟩
                      simp only [Act.put, List.setIfInBounds_toArray, List.set_cons_zero, List.set_cons_succ]
                      refine wpAnyH_all (rs := [7]) (by kernel_rfl) (by simp) ?_
                      intro i hi
                      simp only [List.mem_cons, List.not_mem_nil, or_false] at hi
                      subst hi
                      refine wpOp_of rfl rfl (wp_estored rfl rfl rfl hs2.out ?_)
                      refine ⟨KS3.out, ?_⟩
                      refine wpAnyH_done (by kernel_rfl) ?_ _
                      go_wp2_with fail
                      go_meet
                      exact ⟨rfl, rfl⟩
                    · refine wpOp_of rfl rfl (wp_extracted rfl rfl ?_)
                      refine ⟨KS2.out, ?_⟩
                      simp only [Act.put, List.setIfInBounds_toArray, List.set_cons_zero, List.set_cons_succ]
                      refine wpAnyH_all (rs := [4]) (by kernel_rfl) (by simp) ?_
                      intro i hi
                      simp only [List.mem_cons, List.not_mem_nil, or_false] at hi
                      subst hi
                      refine wpOp_of rfl rfl (wp_computed rfl rfl (hg' _ _ _) (ha _) ?_)
                      refine ⟨KS2.out, ?_⟩
                      simp only [Act.put, List.setIfInBounds_toArray, List.set_cons_zero, List.set_cons_succ]
                      refine wpAnyH_all (rs := [7]) (by kernel_rfl) (by simp) ?_
                      intro i hi
                      simp only [List.mem_cons, List.not_mem_nil, or_false] at hi
                      subst hi
                      refine wpOp_of rfl rfl (wp_estored rfl rfl rfl hs2.out ?_)
                      refine ⟨KS3.out, ?_⟩
                      refine wpAnyH_done (by kernel_rfl) ?_ _
                      go_wp2_with fail
                      go_meet
                      exact ⟨rfl, rfl⟩
                  · refine wpOp_of rfl rfl (wp_extracted rfl rfl ?_)
                    refine ⟨KS2.out, ?_⟩
                    simp only [Act.put, List.setIfInBounds_toArray, List.set_cons_zero, List.set_cons_succ]
                    refine wpAnyH_all (rs := [3]) (by kernel_rfl) (by simp) ?_
                    intro i hi
                    simp only [List.mem_cons, List.not_mem_nil, or_false] at hi
                    subst hi
                    refine wpOp_of rfl rfl (wp_looked rfl rfl hl2.out ?_)
                    refine ⟨KS2.out, ?_⟩
                    simp only [Act.put, List.setIfInBounds_toArray, List.set_cons_zero, List.set_cons_succ]
                    refine wpAnyH_all (rs := [4]) (by kernel_rfl) (by simp) ?_
                    intro i hi
                    simp only [List.mem_cons, List.not_mem_nil, or_false] at hi
                    subst hi
                    refine wpOp_of rfl rfl (wp_computed rfl rfl (hg' _ _ _) (ha _) ?_)
                    refine ⟨KS2.out, ?_⟩
                    simp only [Act.put, List.setIfInBounds_toArray, List.set_cons_zero, List.set_cons_succ]
                    refine wpAnyH_all (rs := [7]) (by kernel_rfl) (by simp) ?_
                    intro i hi
                    simp only [List.mem_cons, List.not_mem_nil, or_false] at hi
                    subst hi
                    refine wpOp_of rfl rfl (wp_estored rfl rfl rfl hs2.out ?_)
                    refine ⟨KS3.out, ?_⟩
                    refine wpAnyH_done (by kernel_rfl) ?_ _
                    go_wp2_with fail
                    go_meet
                    exact ⟨rfl, rfl⟩
              case rest =>
                obtain ⟨rfl, hwc⟩ := hcut
                rw [hwc]
                clear hwc KS1 KS2 hl1 hl2 he1 hs2 ha hg'
                have BB5s : Hid (Below wb.heap.size wb w5) := by rw [← hgs.out]; exact BB5.out
                have HS5 := Lib.hid (HSB.out.ext BB5s.out)
                rcases ZZ.out with ⟨hnew, rfl⟩ | ⟨hold, hz2⟩
                · have d6 : ((1 : Int) < 0 + 1) = False := by simp
                  have E := Lib.hid (PN.out hnew)
                  have HJ : Hid (D[D.idxOf x.1]? = some x.1) := by
                    have hi := List.idxOf_lt_length_of_mem HXM.out
                    rw [Hid, List.getElem?_eq_getElem hi, List.getElem_idxOf hi]
                  generalize D.idxOf x.1 = jj at *
                  have y2 : w5.cell? ⟨gp, 2, none⟩ = some (.slice A1 x.2.1.length c1) := KS3.out.cell 2
                  obtain ⟨A8, c8, rfl, _, _⟩ := Sl.of_own OS5.out
                  have OS6 : Hid (w5.ownsRow gs 338 2 (.slice A8 (progS D l k).length c8) (progS D l k ++ stepsK D jj x.2.1 0).length ((progS D l k ++ stepsK D jj x.2.1 0).flatMap encS)) := by
                    have e : progS D l k ++ stepsK D jj x.2.1 0 = progS D l k := by simp [stepsK]
                    rw [e]; exact OS5.out
                  clear ZZ hnew PO PN OS5
                  go_wp2_with (first
                    | (refine wpList_load_mid rfl 27 _ (by rfl) gp 0 (by rfl) _ _ (patC_pid KS3.out) underPid rfl infoPid ?_)
                    | (refine wpList_lookedU (by rfl) (by rfl) hl3.out ?_))
                  clear y2 hl3 d6 HS5 BB5s
                  go_loopw [84, 8] (fun v s wr => ∃ j : Nat, j ≤ x.2.1.length ∧ v = .int .i64 j ∧ Hid (SeenAt wr gs (N ++ [x.1]) l') ∧ Hid (Blk wr gp 31 (patC x.1 A1 x.2.1.length c1 A2 x.2.2.length c2).toArray) ∧ Hid (wr.ownsRow gs 338 2 s (progS D l k ++ stepsK D jj x.2.1 j).length ((progS D l k ++ stepsK D jj x.2.1 j).flatMap encS)) ∧ Hid (Below gs wb wr)) (fun v _ _ => x.2.1.length - (intOf v).toNat)
                  case atStart => exact ⟨0, by omega, rfl, SE5.out, KS3.out, OS6.out, BB5.out⟩
                  case round =>
                    clear SE5 KS3 OS6 BB5
                    obtain ⟨j, hj, rfl, SE, KS, OS, BB⟩ := hrel
                    have hj0 : (0 : Int) ≤ (j : Int) := by omega
                    have BBs : Hid (Below wb.heap.size wb wr) := by rw [← hgs.out]; exact BB.out
                    have HS := Lib.hid (HSB.out.ext BBs.out)
                    by_cases hjl : j < x.2.1.length
                    · have hjk : (j : Int) < (x.2.1.length : Int) := by omega
                      have PDx := PDw.out.stay IDw.out (Stay.of_below HS.out.below)
                      obtain ⟨b, o, d, rfl, hb, hd, hr⟩ := PDx.at_ hjl
                      have R := Lib.hid hr
                      have HD := Lib.hid hd
                      have KZ : Hid (Blk (wr.alloc (.cells #[.int .u8 0, .int .u16 0] 27)) wr.heap.size 27 #[.int .u8 0, .int .u16 0]) := Blk.new _ _ _
                      have KN : Hid (Blk ((wr.alloc (.cells #[.int .u8 0, .int .u16 0] 27)).setRow wr.heap.size (encP d).toArray) wr.heap.size 27 (encP d).toArray) := KZ.out.row _
                      have BN : Hid (Below wr.heap.size wr ((wr.alloc (.cells #[.int .u8 0, .int .u16 0] 27)).setRow wr.heap.size (encP d).toArray)) := below_setRow (below_new wr _) (Nat.le_refl _) _
                      have HS6 := Lib.hid (HS.out.ext BN.out)
                      have SE6 := Lib.hid (SE.out.ext BN.out)
                      have KS6 := Lib.hid (KS.out.ext BN.out)
                      have OS6 := Lib.hid (own_ext OS.out BN.out)
                      have BB6 : Hid (Below gs wb ((wr.alloc (.cells #[.int .u8 0, .int .u16 0] 27)).setRow wr.heap.size (encP d).toArray)) := BB.out.trans (BN.out.mono (by rw [hgs.out]; exact BBs.out.size))
                      clear hr hb hd PDx
                      go_upto_region 23 with (first
                        | (refine wpList_load_mid rfl 27 _ (by rfl) b (o + j * 2) (by rfl) _ _ R.out underPid rfl infoPid ?_)
                        | (refine wpList_store_row rfl 27 _ _ (by rfl) wr.heap.size (encP d).toArray (by rfl) (by rfl) _ _ KZ.out infoPid rfl (encP_all _) ?_))
                      generalize (wr.alloc (.cells #[.int .u8 0, .int .u16 0] 27)).setRow wr.heap.size (encP d).toArray = w6 at *
                      clear KZ BN R HS SE KS OS BB BBs
                      obtain ⟨gd, hgd⟩ : ∃ gd, gd = wr.heap.size := ⟨_, rfl⟩
                      rw [← hgd] at KN ⊢
                      clear hgd
                      have y1 : ∀ z : Ext w6, z.w.cell? ⟨gh, 1, none⟩ = some (.map (some gm)) := fun z => (HS6.out.blk.ext z.h).cell 1
                      obtain ⟨kl, hkl⟩ := kKeyP d
                      obtain ⟨v, ok, hv, hrun⟩ := HS6.out.map.look_ok kLawI kMapI kZeroInt hkl
                      have hrun := Lib.hid hrun
                      have gml := Lib.hid HS6.out.map.lt
                      clear hkl
                      have HR : Hid (∀ w', (∃ z : Ext w6, w' = z.w) → (Instr.lookup 167 (.map (some gm)) (.agg (encP d).toArray) true).run Tryz.prog w' = .ok (.tuple #[v, .bool ok]) w') := by
                        rintro _ ⟨z, rfl⟩
                        exact hrun.out _ (z.h.block gm gml.out)
                      clear hrun
                      try go_frame
                      rcases hv with ⟨rfl, hno, rfl⟩ | ⟨rfl, hyes⟩
                      · have E2 : Hid (progS D l k ++ stepsK D jj x.2.1 (j + 1) = progS D l k ++ stepsK D jj x.2.1 j) := by rw [Hid, stepsK_no HD.out (nameM_none hno)]
                        clear hno
                        refine wp_region_ext mixedS (by kernel_rfl) ?_
                        repeat (first
                          | (refine wpQuiet_load_row KN.out underPid rfl infoPid rfl rfl ?_; simp only [List.set_cons_succ, List.set_cons_zero])
                          | (refine wpQuiet_look HR.out rfl rfl rfl ?_; simp only [List.set_cons_succ, List.set_cons_zero])
                          | go_big_quiet_step (fail))
                        refine wpQuiet_nil ?_
                        rintro _ ⟨z, rfl⟩
                        have SE7 := Lib.hid (SE6.out.ext z.h)
                        have KS7 := Lib.hid (KS6.out.ext z.h)
                        have OS7 := Lib.hid (own_ext OS6.out z.h)
                        have BB7 : Hid (Below gs wb z.w) := BB6.out.trans (z.h.mono (by have := HSB.out.below.size; have := BB6.out.size; rw [hgs.out] at *; exact this))
                        generalize z.w = w7 at *
                        clear y1 KN HR HS6 gml SE6 KS6 OS6 BB6
                        go_wp2_with fail
                        go_roundw
                        case rel => exact ⟨j + 1, by omega, by go_num, SE7.out, KS7.out, by rw [E2.out]; exact OS7.out, BB7.out⟩
                        case measure => simp [intOf]; omega
                      · obtain ⟨i, hi, rfl⟩ := nameM_key hyes
                        have E2 : Hid (progS D l k ++ stepsK D jj x.2.1 (j + 1) = (progS D l k ++ stepsK D jj x.2.1 j) ++ [(i, jj)]) := by rw [Hid, stepsK_yes DN.out HD.out hi, List.append_assoc]
                        clear hyes hi
                        have hML : (progS D l k ++ stepsK D jj x.2.1 j).length ≤ 1800000 := by
                          have := stepsK_len D jj j x.2.1
                          rw [List.length_append]; omega
                        generalize progS D l k ++ stepsK D jj x.2.1 j = M at *
                        refine wp_region_ext mixedS (by kernel_rfl) ?_
                        repeat (first
                          | (refine wpQuiet_load_row KN.out underPid rfl infoPid rfl rfl ?_; simp only [List.set_cons_succ, List.set_cons_zero])
                          | (refine wpQuiet_look HR.out rfl rfl rfl ?_; simp only [List.set_cons_succ, List.set_cons_zero])
                          | go_big_quiet_step (fail))
                        refine wpQuiet_nil ?_
                        rintro _ ⟨z, rfl⟩
                        have SE7 := Lib.hid (SE6.out.ext z.h)
                        have KS7 := Lib.hid (KS6.out.ext z.h)
                        have OS7 := Lib.hid (own_ext OS6.out z.h)
                        have HS7 := Lib.hid (HS6.out.ext z.h)
                        have BB7 : Hid (Below gs wb z.w) := BB6.out.trans (z.h.mono (by have := HSB.out.below.size; have := BB6.out.size; rw [hgs.out] at *; exact this))
                        generalize z.w = w7 at *
                        clear y1 KN HR HS6 gml SE6 KS6 OS6 BB6
                        have HL : Hid (∀ w' : World, w'.heap[gm]? = w7.heap[gm]? → (Instr.lookup 167 (.map (some gm)) (.agg (encP x.1).toArray) false).run Tryz.prog w' = .ok (.int .i64 (jj : Int)) w') := by
                          obtain ⟨kl, hkl⟩ := kKeyP x.1
                          obtain ⟨v, hg, hl⟩ := HS7.out.map.look kLawI kMapI kZeroInt hkl
                          rcases hg with ⟨h1, _⟩ | h1
                          · exact absurd (List.mem_of_getElem? HJ.out) (nameM_none h1)
                          · obtain ⟨i2, hi2, rfl⟩ := nameM_key h1
                            have e1 := placeD_at DN.out hi2
                            have e2 := placeD_at DN.out HJ.out
                            obtain rfl : i2 = jj := by omega
                            exact hl
                        obtain ⟨A', c', rfl, _, _⟩ := Sl.of_own OS7.out
                        go_upto_region 25 with fail
                        try go_frame
                        refine wp_region_held (S := fun w' => Blk w' gh 335 #[.slice AD D.length cD, .map (some gm), .pointer none] ∧ Blk w' gp 31 (patC x.1 (some ⟨b, o, none⟩) x.2.1.length c1 A2 x.2.2.length c2).toArray ∧ w'.heap[gm]? = w7.heap[gm]?) mixedS ?_
                        change wpAnyH _ _ _ _ _ _ _ _ w7.drew
                        have S9 : Hid (Blk w7.drew gh 335 #[.slice AD D.length cD, .map (some gm), .pointer none] ∧ Blk w7.drew gp 31 (patC x.1 (some ⟨b, o, none⟩) x.2.1.length c1 A2 x.2.2.length c2).toArray ∧ w7.drew.heap[gm]? = w7.heap[gm]?) := ⟨HS7.out.blk, KS7.out, rfl⟩
                        have O9 : Hid (w7.drew.ownsRow gs 338 2 (.slice A' M.length c') M.length (M.flatMap encS)) := OS7.out
                        have MP9 : Hid (MapIs Tryz.prog 27 w7.drew gm (nameM D)) := HS7.out.map
                        have SE9 : Hid (SeenAt w7.drew gs (N ++ [x.1]) l') := ⟨SE7.out.map, SE7.out.keys, SE7.out.vals⟩
                        have BB9 : Hid (Below gs wb w7.drew) := BB7.out.drew
                        have GM9 : Hid (gm < w7.drew.heap.size) := MP9.out.lt
                        have hbs9 : Hid (gs ≤ w7.drew.heap.size) := Nat.le_of_lt SE7.out.map.lt
                        clear SE7 KS7 OS7 HS7 BB7
                        generalize w7.drew = w9 at *
                        simp only [List.size_toArray, List.length_cons, List.length_nil]
                        refine takeV (i := 0) (d := 98) (v := .slice A' M.length c') rfl (by kernel_rfl) (by kernel_rfl) (by kernel_rfl) (fun _ _ _ h => h) rfl (fun _ _ => exMove (v := .slice A' M.length c') rfl) S9.out ?_
                        simp only [Act.put, List.setIfInBounds_toArray, List.set_cons_zero, List.set_cons_succ]
                        refine takeV (i := 1) (d := 99) (v := .int .i64 (i : Int)) rfl (by kernel_rfl) (by kernel_rfl) (by kernel_rfl) (fun _ _ _ h => h) rfl (fun _ _ => exMove (v := .int .i64 (i : Int)) rfl) S9.out ?_
                        simp only [Act.put, List.setIfInBounds_toArray, List.set_cons_zero, List.set_cons_succ]
                        refine takeV (i := 2) (d := 100) (v := .pointer (some ⟨gh, 0, none⟩)) rfl (by kernel_rfl) (by kernel_rfl) (by kernel_rfl) (fun _ _ _ h => h) rfl (fun _ _ => exMove (v := .pointer (some ⟨gh, 0, none⟩)) rfl) S9.out ?_
                        simp only [Act.put, List.setIfInBounds_toArray, List.set_cons_zero, List.set_cons_succ]
                        refine takeV (i := 3) (d := 101) (v := .pointer (some ⟨gh, 0, none⟩)) rfl (by kernel_rfl) (by kernel_rfl) (by kernel_rfl) (fun _ _ _ h => h) rfl (fun _ _ => exNil rfl) S9.out ?_
                        simp only [Act.put, List.setIfInBounds_toArray, List.set_cons_zero, List.set_cons_succ]
                        refine takeV (i := 4) (d := 102) (v := .pointer (some ⟨gh, 1, none⟩)) rfl (by kernel_rfl) (by kernel_rfl) (by kernel_rfl) (fun _ _ _ h => h) rfl (fun w' _ => exField rfl (fieldH gh 1 (by omega) w')) S9.out ?_
                        simp only [Act.put, List.setIfInBounds_toArray, List.set_cons_zero, List.set_cons_succ]
                        refine takeV (i := 5) (d := 103) (v := .map (some gm)) rfl (by kernel_rfl) (by kernel_rfl) (by kernel_rfl) (fun _ _ _ h => h) rfl (fun w' h => exLoad rfl (loadMapI gh 1 w' gm (h.1.cell 1))) S9.out ?_
                        simp only [Act.put, List.setIfInBounds_toArray, List.set_cons_zero, List.set_cons_succ]
                        refine takeV (i := 6) (d := 104) (v := .pointer (some ⟨gp, 0, none⟩)) rfl (by kernel_rfl) (by kernel_rfl) (by kernel_rfl) (fun _ _ _ h => h) rfl (fun w' _ => exField rfl (fieldPat0 gp w')) S9.out ?_
                        simp only [Act.put, List.setIfInBounds_toArray, List.set_cons_zero, List.set_cons_succ]
                        refine takeV (i := 7) (d := 105) (v := .agg (encP x.1).toArray) rfl (by kernel_rfl) (by kernel_rfl) (by kernel_rfl) (fun _ _ _ h => h) rfl (fun w' h => exMid rfl (patC_pid h.2.1) underPid rfl infoPid) S9.out ?_
                        simp only [Act.put, List.setIfInBounds_toArray, List.set_cons_zero, List.set_cons_succ]
                        refine takeV (i := 8) (d := 106) (v := .int .i64 (jj : Int)) rfl (by kernel_rfl) (by kernel_rfl) (by kernel_rfl) (fun _ _ _ h => h) rfl (fun w' h => exLook rfl rfl (HL.out w' h.2.2)) S9.out ?_
                        simp only [Act.put, List.setIfInBounds_toArray, List.set_cons_zero, List.set_cons_succ]
                        refine takeV (i := 9) (d := 107) (v := .agg (encS (i, jj)).toArray) rfl (by kernel_rfl) (by kernel_rfl) (by kernel_rfl) (fun _ _ _ h => h) rfl (fun w' _ => exBuild (vs := #[(0, .int .i64 (i : Int)), (1, .int .i64 (jj : Int))]) (by simp only [List.map_toArray, List.map_cons, List.map_nil]; rfl) (buildS2 i jj w')) S9.out ?_
                        simp only [Act.put, List.setIfInBounds_toArray, List.set_cons_zero, List.set_cons_succ]
                        refine wpAnyH_all (rs := [10]) (by kernel_rfl) (by simp) ?_
                        intro i hi
                        simp only [List.mem_cons, List.not_mem_nil, or_false] at hi
                        subst hi
                        refine wpOp_of rfl rfl (wp_lit1 stepSl (cs := encS (i, jj)) rfl (by omega) rfl ?_)
                        refine ⟨⟨S9.out.1.alloc _, S9.out.2.1.alloc _, (Below.heap_alloc w9 _ gm GM9.out).trans S9.out.2.2⟩, ?_⟩
                        simp only [Act.put, List.setIfInBounds_toArray, List.set_cons_zero, List.set_cons_succ]
                        refine wpAnyH_all (rs := [11]) (by kernel_rfl) (by simp) ?_
                        intro i hi
                        simp only [List.mem_cons, List.not_mem_nil, or_false] at hi
                        subst hi
                        refine wpOp_of rfl rfl (wp_pushF stepSl O9.out (encS (i, jj)) rfl (by simp [encS, Value.oneCell']) hbs9.out (by omega) (by unfold maxLen; omega) rfl rfl rfl ?_)
                        intro v1 w6 own1 kp hv1
                        have S6 : Hid (Blk w6 gh 335 #[.slice AD D.length cD, .map (some gm), .pointer none] ∧ Blk w6 gp 31 (patC x.1 (some ⟨b, o, none⟩) x.2.1.length c1 A2 x.2.2.length c2).toArray ∧ w6.heap[gm]? = w7.heap[gm]?) := ⟨S9.out.1.keep (kp.block gh S9.out.1.lt fun e => own_ne_blk O9.out S9.out.1 (by decide) e rfl), S9.out.2.1.keep (kp.block gp S9.out.2.1.lt fun e => own_ne_blk O9.out S9.out.2.1 (by decide) e rfl), (kp.block gm GM9.out fun e => own_ne_map O9.out MP9.out e rfl).trans S9.out.2.2⟩
                        refine ⟨S6.out, ?_⟩
                        simp only [Act.put, List.setIfInBounds_toArray, List.set_cons_zero, List.set_cons_succ]
                        refine wpAnyH_all (rs := [12]) (by kernel_rfl) (by simp) ?_
                        intro i hi
                        simp only [List.mem_cons, List.not_mem_nil, or_false] at hi
                        subst hi
                        refine wpOp_of rfl rfl (wp_assigned rfl ?_)
                        refine ⟨S6.out, ?_⟩
                        simp only [Act.put, List.setIfInBounds_toArray, List.set_cons_zero, List.set_cons_succ]
                        refine wpAnyH_done (by kernel_rfl) ?_ _
                        have SE10 : Hid (SeenAt w6 gs (N ++ [x.1]) l') := ⟨SE9.out.map.keep (kp.block gs SE9.out.map.lt fun e => own_ne_map O9.out SE9.out.map e rfl), SE9.out.keys, SE9.out.vals⟩
                        have BB10 : Hid (Below gs wb w6) := BB9.out.trans (kp.below (fun k e => (O9.out.lt k e).1) hbs9.out)
                        have OS10 : Hid (w6.ownsRow gs 338 2 v1 (M ++ [(i, jj)]).length ((M ++ [(i, jj)]).flatMap encS)) := by
                          have e : (M ++ [(i, jj)]).flatMap encS = M.flatMap encS ++ encS (i, jj) := by simp
                          rw [Hid, e, List.length_append]; exact own1
                        have KS10 := Lib.hid S6.out.2.1
                        clear own1 kp hv1 S9 S6 O9 MP9 SE9 BB9 GM9 hbs9 HL
                        go_wp2_with fail
                        go_roundw
                        case rel => exact ⟨j + 1, by omega, by go_num, SE10.out, KS10.out, by rw [E2.out]; exact OS10.out, BB10.out⟩
                        case measure => simp [intOf]; omega
                    · have hjk : ¬ (j : Int) < (x.2.1.length : Int) := by omega
                      obtain rfl : j = x.2.1.length := by omega
                      rw [stepsK_all] at OS
                      rw [← E.out] at OS
                      go_wp2_with fail
                      go_roundw
                      case rel => exact ⟨k + 1, l', by omega, by go_num, by rw [HNN.out]; exact SE.out, OS.out, BB.out⟩
                      case measure => simp [intOf]; omega
                · have d6 : (1 : Int) < z + 1 := by omega
                  have E := Lib.hid (PO.out hold)
                  clear ZZ hold PO PN
                  go_wp2_with (first
                    | (refine wpList_load_mid rfl 27 _ (by rfl) gp 0 (by rfl) _ _ (patC_pid KS3.out) underPid rfl infoPid ?_)
                    | (refine wpList_lookedU (by rfl) (by rfl) hl3.out ?_))
                  go_roundw
                  case rel => exact ⟨k + 1, l', by omega, by go_num, by rw [HNN.out]; exact SE5.out, by rw [E.out]; exact OS5.out, BB5.out⟩
                  case measure => simp [intOf]; omega
            · have hlk : ¬ (k : Int) < (n : Int) := by omega
              obtain rfl : n = k := by omega
              have y0 : wr.cell? ⟨gh, 0, none⟩ = some (.slice AD D.length cD) := HS.out.blk.cell 0
              obtain ⟨As, cs, rfl, _, sl⟩ := Sl.of_own OS.out
              have PLn : (progS D l n).length ≤ 900000 := Nat.le_trans (progS_sum D l n) HQ.out
              have HC := Lib.hid (of8_any (c := cs) (show D.length ≤ 65536 by omega) PSL.out sl (by omega))
              have OD8 := Lib.hid (own_ext ODB.out BBs.out)
              clear sl SE OS BB
              go_wp2_with fail
              refine HC.out.mono ?_
              rintro e w8 ⟨gr, R, rfl, hR, hRL, hgr, b8⟩
              have ER : R = relH l := rel_eq hRL fun a b => relH_of PS.out a b
              subst ER
              have HS8 := Lib.hid (HS.out.ext b8)
              have OD9 := Lib.hid (own_ext OD8.out b8)
              have RR := Lib.hid hR
              have y2 : w8.cell? ⟨gh, 2, none⟩ = some (.pointer none) := HS8.out.blk.cell 2
              have f2 : w8.frozen? ⟨gh, 2, none⟩ = false := HS8.out.blk.fr 2
              have K9 : Hid (Blk (w8.setCell ⟨gh, 2, none⟩ (.pointer (some ⟨gr, 0, none⟩))) gh 335 (hangC AD D.length cD gm gr)) := HS8.out.blk.set_ 2 _
              have KK : Kept (fun k => k = gh) w8 (w8.setCell ⟨gh, 2, none⟩ (.pointer (some ⟨gr, 0, none⟩))) := (Kept.refl (fun k => k = gh) w8).setCell (p := ⟨gh, 2, none⟩) (.inl rfl) _
              have O10 := own_keepF OD9.out fun g e => KK.block g (OD9.out.lt g e).2 (own_ne_blk OD9.out HS8.out.blk (by decide) e)
              have HF := Lib.hid (RG.out gh _ ⟨DN.out, by omega, RTR.out, AD, cD, gm, gr, K9.out, own_rebase O10 (fun _ _ => Nat.zero_le _), HS8.out.map.keep (KK.block gm HS8.out.map.lt (blk_ne_map HS8.out.blk HS8.out.map).symm), RR.out.keepB HS8.out.blk KK⟩ (HS8.out.below.setCell (p := ⟨gh, 2, none⟩) HS8.out.ge.2 _))
              clear hR hRL hgr b8 HS OD8 OD9 O10 K9 KK HC y0
              go_wp2
              go_ret
              exact HF.out
end Go.Proofs.YtihggkmjalofiaaGreatDoor
