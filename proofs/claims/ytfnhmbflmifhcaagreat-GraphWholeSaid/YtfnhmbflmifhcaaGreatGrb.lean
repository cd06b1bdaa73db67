/- The same patches make the same graph, in whichever order they come; what is applied hangs together: plain laws; no program in sight. -/
import Derived.Test.YtfnhmbflmifhcaaGreatGra
namespace Go.Proofs.YtfnhmbflmifhcaaGreat
open Go.RowKit

theorem kindIs_mono {f g : VidV → Option RawV} (h : ∀ v r, f v = some r → g v = some r) {v : VidV} {k : Nat} (hk : kindIs f v k = true) : kindIs g v k = true := by
  obtain ⟨a, ha, e⟩ := kindIs_some hk
  unfold kindIs
  rw [h v a ha]
  exact decide_eq_true e
theorem fileF_of {f : VidV → Option RawV} {v : VidV} {r : RawV} (h : f v = some r) : fileF f v = r.2.1 := by unfold fileF; rw [h]
theorem refB_mono {f g : VidV → Option RawV} (h : ∀ v r, f v = some r → g v = some r) {o : OpV} (ho : refB f o = true) : refB g o = true := by
  unfold refB at ho ⊢
  by_cases c1 : o.1.val = 2 ∨ o.1.val = 3
  · rw [if_pos c1] at ho ⊢
    exact kindIs_mono h ho
  rw [if_neg c1] at ho ⊢
  by_cases c5 : o.1.val = 5
  · rw [if_pos c5] at ho ⊢
    obtain ⟨r, hr⟩ := Option.isSome_iff_exists.1 ho
    rw [h _ r hr]; rfl
  rw [if_neg c5] at ho ⊢
  by_cases c4 : o.1.val = 4
  · rw [if_pos c4] at ho ⊢
    rw [Bool.and_eq_true, Bool.and_eq_true, decide_eq_true_eq] at ho ⊢
    obtain ⟨a, ha, _⟩ := kindIs_some ho.1
    obtain ⟨b, hb, _⟩ := kindIs_some ho.2.1
    refine ⟨kindIs_mono h ho.1, kindIs_mono h ho.2.1, ?_⟩
    rw [fileF_of (h _ a ha), fileF_of (h _ b hb), ← fileF_of ha, ← fileF_of hb]
    exact ho.2.2
  rw [if_neg c4]
theorem gr_more {X L : List PatV} (hX : GrOk X) {p : PatV} (hL : GrOk L) (h0 : grE L p = 0) (hn : ∀ q ∈ X, q.1 ≠ p.1) (hs : ∀ q ∈ L, q ∈ X) : grE X p = 0 := by
  obtain ⟨h1, _, _, _, h5⟩ := grE_zero h0
  obtain ⟨_, _, i3, i4⟩ := idxE_zero (put_more hX.idx hL.idx (grE_idx hL.idx h0) hn fun q hq => ⟨q, hs q hq, rfl⟩)
  refine grE_of h1 (hX.idx.hasnt hn) (by rw [← putB_next h1]; exact i4) i3 fun o ho => refB_mono (fun v r hr => ?_) (h5 o ho)
  rw [rawV_snoc] at hr ⊢
  cases hl : rawV L v with
  | some s =>
    rw [hl] at hr
    obtain ⟨q, hq, e⟩ := rawV_mem hl
    rw [hX.raw.2 ⟨q, hs q hq, e⟩]
    exact hr
  | none =>
    rw [hl] at hr
    have hr2 : rawP p v = some r := hr
    rw [rawV_none fun q hq e => hn q hq (e.trans (rawP_name hr2).symm)]
    exact hr
/-- nothing more can be applied -/
def Satur (L l : List PatV) : Prop := ∀ p ∈ l, grE L p ≠ 0
theorem sat_all {A B l : List PatV} (hA : GrOk A) (hB : GrOk B) (hone : ∀ p ∈ l, ∀ q ∈ l, p.1 = q.1 → p = q) (hAl : ∀ p ∈ A, p ∈ l) (hBl : ∀ p ∈ B, p ∈ l) (hs : Satur B l) : ∀ p ∈ A, p ∈ B := by
  induction hA with
  | nil => simp
  | @snoc A p hA h0 ih =>
    have ih := ih fun q hq => hAl q (List.mem_append.2 (.inl hq))
    intro q hq
    rcases List.mem_append.1 hq with hq | hq
    · exact ih q hq
    · obtain rfl := List.mem_singleton.1 hq
      have hql := hAl q (by simp)
      by_cases hx : ∃ x ∈ B, x.1 = q.1
      · obtain ⟨x, hxB, e⟩ := hx
        rw [← hone x (hBl x hxB) q hql e]
        exact hxB
      · exact absurd (gr_more hB hA h0 (fun x hx' e => hx ⟨x, hx', e⟩) ih) (hs q hql)
/-- the same patches: the same graph -/
theorem same_graph {A B : List PatV} (hA : GrOk A) (hB : GrOk B) (h : ∀ p, p ∈ A ↔ p ∈ B) : vecL A = vecL B ∧ vertsL A = vertsL B ∧ edgesL A = edgesL B := by
  have hraw : ∀ v, rawV A v = rawV B v := fun v => by
    apply Option.ext
    intro r
    rw [hA.raw, hB.raw]
    exact ⟨fun ⟨p, hp, e⟩ => ⟨p, (h p).1 hp, e⟩, fun ⟨p, hp, e⟩ => ⟨p, (h p).2 hp, e⟩⟩
  have hdead : ∀ v, deadV A v = deadV B v := fun v => by
    unfold deadV
    rw [Bool.eq_iff_iff, List.any_eq_true, List.any_eq_true]
    exact ⟨fun ⟨p, hp, e⟩ => ⟨p, (h p).1 hp, e⟩, fun ⟨p, hp, e⟩ => ⟨p, (h p).2 hp, e⟩⟩
  have hvert : ∀ v, vertV A v = vertV B v := fun v => by unfold vertV; rw [hraw, hdead]
  refine ⟨vec_eq_of_has (vecL_ok A) (vecL_ok B) fun d => ?_, rise_eqX hA.verts_rise hB.verts_rise fun z => by rw [hA.verts, hB.verts, hvert], setK_congr keyE_inj fun z => ?_⟩
  · rw [Bool.eq_iff_iff, hA.idx.has, hB.idx.has]
    exact ⟨fun ⟨p, hp, e⟩ => ⟨p, (h p).1 hp, e⟩, fun ⟨p, hp, e⟩ => ⟨p, (h p).2 hp, e⟩⟩
  · unfold edgesOf
    rw [List.mem_flatMap, List.mem_flatMap]
    exact ⟨fun ⟨p, hp, e⟩ => ⟨p, (h p).1 hp, e⟩, fun ⟨p, hp, e⟩ => ⟨p, (h p).2 hp, e⟩⟩

/-- patches that are applied one behind another -/
def runG (L : List PatV) (l : List PatV) : List PatV := l.foldl grL L
theorem runG_ok (l : List PatV) : ∀ L, GrOk L → GrOk (runG L l) := by
  induction l with
  | nil => intro L h; exact h
  | cons p l ih => intro L h; exact ih _ (h.put p)
theorem runG_snoc (L : List PatV) {l : List PatV} {k : Nat} {p : PatV} (h : l[k]? = some p) : runG L (l.take (k + 1)) = grL (runG L (l.take k)) p := by
  obtain ⟨hk, rfl⟩ := List.getElem?_eq_some_iff.1 h
  unfold runG
  rw [List.take_succ_eq_append_getElem hk, List.foldl_append]; rfl
theorem grL_len (L : List PatV) (p : PatV) : L.length ≤ (grL L p).length ∧ ((grL L p).length = L.length → grE L p ≠ 0 ∧ grL L p = L) := by
  unfold grL
  by_cases h : grE L p = 0
  · rw [if_pos h]; exact ⟨by simp, fun e => by simp at e⟩
  · rw [if_neg h]; exact ⟨Nat.le_refl _, fun _ => ⟨h, rfl⟩⟩
theorem runG_len (l : List PatV) : ∀ L, L.length ≤ (runG L l).length ∧ ((runG L l).length = L.length → Satur L l ∧ runG L l = L) := by
  induction l with
  | nil => intro L; exact ⟨Nat.le_refl _, fun _ => ⟨fun p hp => (by cases hp), rfl⟩⟩
  | cons p l ih =>
    intro L
    obtain ⟨i1, i2⟩ := ih (grL L p)
    obtain ⟨g1, g2⟩ := grL_len L p
    refine ⟨Nat.le_trans g1 i1, fun e => ?_⟩
    have e1 : (runG (grL L p) l).length = L.length := e
    obtain ⟨g3, g4⟩ := g2 (by omega)
    rw [g4] at i2 e1
    obtain ⟨s1, s2⟩ := i2 e1
    refine ⟨fun q hq => ?_, by show runG (grL L p) l = L; rw [g4]; exact s2⟩
    rcases List.mem_cons.1 hq with rfl | hq
    · exact g3
    · exact s1 q hq
theorem grL_mem {L : List PatV} {p q : PatV} (h : q ∈ grL L p) : q ∈ L ∨ q = p := by
  unfold grL at h
  split at h
  · rcases List.mem_append.1 h with h | h
    · exact .inl h
    · exact .inr (List.mem_singleton.1 h)
  · exact .inl h
theorem runG_mem (l : List PatV) : ∀ L q, q ∈ runG L l → q ∈ L ∨ q ∈ l := by
  induction l with
  | nil => intro L q h; exact .inl h
  | cons p l ih =>
    intro L q h
    rcases ih _ q h with h | h
    · rcases grL_mem h with h | rfl
      · exact .inl h
      · exact .inr (by simp)
    · exact .inr (by simp [h])
/-- so many rounds over patches -/
def rounds (l : List PatV) : Nat → List PatV
  | 0 => []
  | k + 1 => runG (rounds l k) l
theorem rounds_ok (l : List PatV) : ∀ k, GrOk (rounds l k)
  | 0 => .nil
  | k + 1 => runG_ok l _ (rounds_ok l k)
theorem rounds_mem (l : List PatV) : ∀ k q, q ∈ rounds l k → q ∈ l
  | 0, q, h => by cases h
  | k + 1, q, h => (runG_mem l _ q h).elim (rounds_mem l k q) id
theorem satur_run {L l : List PatV} (h : Satur L l) : runG L l = L := by
  induction l with
  | nil => rfl
  | cons p l ih =>
    have e : grL L p = L := by unfold grL; rw [if_neg (h p (by simp))]
    show runG (grL L p) l = L
    rw [e]
    exact ih fun q hq => h q (by simp [hq])
theorem rounds_go (l : List PatV) : ∀ k, Satur (rounds l k) l ∨ k ≤ (rounds l k).length
  | 0 => .inr (Nat.zero_le _)
  | k + 1 => by
    obtain ⟨r1, r2⟩ := runG_len l (rounds l k)
    rcases rounds_go l k with h | h
    · left
      show Satur (runG (rounds l k) l) l
      rw [satur_run h]; exact h
    · by_cases e : (runG (rounds l k) l).length = (rounds l k).length
      · left
        obtain ⟨s1, s2⟩ := r2 e
        show Satur (runG (rounds l k) l) l
        rw [s2]; exact s1
      · right
        show k + 1 ≤ (runG (rounds l k) l).length
        omega
theorem rounds_len (l : List PatV) (k : Nat) : (rounds l k).length ≤ l.length := by
  have h1 := (rounds_ok l k).idx.nodup
  have := h1.length_le_of_subset (l₂ := l.map (·.1)) fun d hd => by
    obtain ⟨p, hp, rfl⟩ := List.mem_map.1 hd
    exact List.mem_map.2 ⟨p, rounds_mem l k p hp, rfl⟩
  simpa using this
theorem rounds_sat (l : List PatV) : Satur (rounds l (l.length + 1)) l := by
  rcases rounds_go l (l.length + 1) with h | h
  · exact h
  · have := rounds_len l (l.length + 1); omega
theorem satur_congr {L l m : List PatV} (h : ∀ p, p ∈ l ↔ p ∈ m) (hs : Satur L l) : Satur L m := fun p hp => hs p ((h p).2 hp)
/-- in whichever order -/
theorem turns_same {l m : List PatV} (hone : ∀ p ∈ l, ∀ q ∈ l, p.1 = q.1 → p = q) (hm : ∀ p, p ∈ l ↔ p ∈ m) (hl : l.length = m.length) : ∀ p, p ∈ rounds l (l.length + 1) ↔ p ∈ rounds m (l.length + 1) := by
  have sB := rounds_sat m
  rw [← hl] at sB
  exact fun p => ⟨sat_all (rounds_ok l _) (rounds_ok m _) hone (rounds_mem l _) (fun q hq => (hm q).2 (rounds_mem m _ q hq)) (satur_congr (fun q => (hm q).symm) sB) p,
    sat_all (rounds_ok m _) (rounds_ok l _) hone (fun q hq => (hm q).2 (rounds_mem m _ q hq)) (rounds_mem l _) (rounds_sat l) p⟩

/-! What is applied hangs together. -/
theorem edgesOf_mem {L : List PatV} {e : EdgeV} : e ∈ edgesOf L ↔ ∃ p ∈ L, ∃ o ∈ p.2.2, o.1.val = 4 ∧ e = (o.2.1, o.2.2.1) := by
  unfold edgesOf edgesP
  rw [List.mem_flatMap]
  constructor
  · rintro ⟨p, hp, h⟩
    obtain ⟨o, ho, h1⟩ := List.mem_filterMap.1 h
    unfold edgeO at h1
    split at h1
    · rename_i h4; exact ⟨p, hp, o, ho, h4, (Option.some.inj h1).symm⟩
    · cases h1
  · rintro ⟨p, hp, o, ho, h4, rfl⟩
    exact ⟨p, hp, List.mem_filterMap.2 ⟨o, ho, by unfold edgeO; rw [if_pos h4]⟩⟩
end Go.Proofs.YtfnhmbflmifhcaaGreat
