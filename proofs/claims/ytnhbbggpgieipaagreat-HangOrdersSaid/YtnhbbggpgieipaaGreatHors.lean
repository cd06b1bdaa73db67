/- Texts of general use, one behind another. -/
import Derived.Test.YtnhbbggpgieipaaGreatHangs
import Derived.Test.YtnhbbggpgieipaaGreatHange
import Derived.Test.YtnhbbggpgieipaaGreatIdxh

/- Patches that were taken together, in the order that is told: plain law; no program in sight. -/
namespace Go.Proofs.YtnhbbggpgieipaaGreat
open Go.RowKit

theorem idxOf_left {l m : List PidV} {d : PidV} (h : d ∈ l) : (l ++ m).idxOf d = l.idxOf d := by rw [List.idxOf_append, if_pos h]
/-- what a patch names was taken ahead of it -/
theorem dep_ahead {L : List PatV} (h : IdxOk L) : ∀ p ∈ L, ∀ d ∈ p.2.1, d ∈ L.map (·.1) ∧ (L.map (·.1)).idxOf d < (L.map (·.1)).idxOf p.1 := by
  induction h with
  | nil => simp
  | @snoc L p hL h0 ih =>
    intro q hq d hd
    rw [List.map_append]
    rcases List.mem_append.1 hq with hq | hq
    · obtain ⟨i1, i2⟩ := ih q hq d hd
      have hm : q.1 ∈ L.map (·.1) := List.mem_map.2 ⟨q, hq, rfl⟩
      exact ⟨List.mem_append.2 (.inl i1), by rw [idxOf_left i1, idxOf_left hm]; exact i2⟩
    · obtain rfl := List.mem_singleton.1 hq
      obtain ⟨_, h2, h3, _⟩ := idxE_zero h0
      obtain ⟨x, hx, rfl⟩ := (hL.has d).1 (h3 d hd)
      have hm : x.1 ∈ L.map (·.1) := List.mem_map.2 ⟨x, hx, rfl⟩
      have hn : q.1 ∉ L.map (·.1) := fun hc => by
        obtain ⟨y, hy, e⟩ := List.mem_map.1 hc
        exact findP_none.1 h2 y hy e
      refine ⟨List.mem_append.2 (.inl hm), ?_⟩
      rw [idxOf_left hm, List.idxOf_append, if_neg hn]
      have := List.idxOf_lt_length_iff.2 hm
      omega
/-- where the patch of a name was taken -/
def posL (L : List PatV) (i : Nat) : Nat := match (namesH L)[i]? with
  | some d => (L.map (·.1)).idxOf d
  | none => 0
theorem hangE_pos {L : List PatV} (h : IdxOk L) {x : Nat × Nat} (hx : HangE L x) : posL L x.1 < posL L x.2 := by
  obtain ⟨p, d, h1, h2, h3, h4⟩ := hx
  unfold posL
  rw [h1, h4]
  exact (dep_ahead h p (findP_some h2).1 d h3).2
theorem relH_pos {L : List PatV} (h : IdxOk L) {a b : Nat} (hr : relH L a b = true) : posL L a < posL L b := by
  have hv := (relH_iff L a b).1 hr
  clear hr
  unfold ViaL at hv
  induction hv with
  | edge e => exact hangE_pos h (mem_stepsH.1 e)
  | step e _ _ ih =>
    have h1 := hangE_pos h (mem_stepsH.1 e)
    exact Nat.lt_trans h1 ih
theorem relH_irr {L : List PatV} (h : IdxOk L) (a : Nat) : relH L a a = false := by
  cases hr : relH L a a
  · rfl
  · have := relH_pos h hr; omega
theorem relH_asym {L : List PatV} (h : IdxOk L) {a b : Nat} (hr : relH L a b = true) : relH L b a = false := by
  cases hc : relH L b a
  · rfl
  · have h1 := relH_pos h hr
    have h2 := relH_pos h hc
    omega
theorem befR_of {L : List PatV} (h : IdxOk L) (a b : Nat) : befR (relH L) a b = relH L a b := by
  unfold befR
  cases hr : relH L a b
  · rfl
  · rw [relH_asym h hr]; rfl
/-- what comes ahead is told ahead -/
theorem ordAt_apart {n : Nat} {R : Nat → Nat → Bool} (T : TransR n R) : ∀ (m k i : Nat), (ordAt R n m)[k]? = some i → ∀ j, befR R j i = true → j ∈ (ordAt R n m).take k
  | 0, k, i, h => by simp [ordAt] at h
  | m + 1, k, i, h => by
    intro j hb
    have ih := ordAt_apart T m
    obtain ⟨h1, _⟩ := ordAt_told T m
    rw [ordAt_succ] at h ⊢
    by_cases hlt : (ordAt R n m).length < n
    · rw [if_pos hlt] at h ⊢
      obtain ⟨g, _, e, _, hm⟩ := pick_there T h1 hlt
      rw [e] at h ⊢
      rcases Nat.lt_or_ge k (ordAt R n m).length with hk | hk
      · rw [List.getElem?_append_left hk] at h
        rw [List.take_append_of_le_length (by omega)]
        exact ih k i h j hb
      · rw [List.getElem?_append_right hk] at h
        obtain ⟨_, hgi⟩ := mem_grpL.1 (List.mem_of_getElem? h)
        unfold mayG freeR at hm
        simp only [Bool.and_eq_true, List.all_eq_true] at hm
        have hjg : befR R j g = true := by
          rcases groupR_like R i with e1 | ⟨_, k2, k3⟩
          · rw [hgi] at e1; rw [e1]; exact hb
          · rw [hgi] at k2 k3
            unfold befR at hb ⊢
            simp only [Bool.and_eq_true, Bool.not_eq_true'] at hb ⊢
            refine ⟨T.trans hb.1 k2, ?_⟩
            cases hc : R g j
            · rfl
            · rw [T.trans k2 hc] at hb; exact absurd hb.2 (by decide)
        have hf := hm.2.2 j (List.mem_range.2 (befR_lt T hjg).1)
        rw [hjg, Bool.not_true, Bool.false_or, decide_eq_true_eq] at hf
        rw [List.take_append, List.take_of_length_le hk]
        exact List.mem_append.2 (.inl hf)
    · rw [if_neg hlt] at h ⊢
      exact ih k i h j hb
theorem ord_ahead {L : List PatV} (h : IdxOk L) {k i : Nat} (hk : (ordR (relH L) (namesH L).length)[k]? = some i) (j : Nat) (hr : relH L j i = true) : j ∈ (ordR (relH L) (namesH L).length).take k :=
  ordAt_apart (relH_trans L) _ k i hk j (by rw [befR_of h]; exact hr)
theorem nodup_take {l : List Nat} (h : l.Nodup) {k i : Nat} (hk : l[k]? = some i) : i ∉ l.take k := fun hc => by
  obtain ⟨j, hj, e⟩ := List.getElem_of_mem hc
  obtain ⟨hk', e'⟩ := List.getElem?_eq_some_iff.1 hk
  rw [List.getElem_take] at e
  have hjk : j < k := by rw [List.length_take] at hj; omega
  exact List.pairwise_iff_getElem.1 h j k (by omega) hk' hjk (by rw [e, e'])
/-- the patches at some places -/
def patI (L : List PatV) (S : List Nat) : List PatV := S.filterMap fun i => (namesH L)[i]?.bind (findP L)
theorem patI_at {L : List PatV} {i : Nat} (hi : i < (namesH L).length) : ∃ p, (namesH L)[i]? = some p.1 ∧ findP L p.1 = some p := by
  obtain ⟨p, hp, e⟩ := (namesH_mem L (namesH L)[i]).1 (List.getElem_mem hi)
  cases hf : findP L p.1 with
  | none => exact absurd rfl (findP_none.1 hf p hp)
  | some q =>
    obtain ⟨_, h2⟩ := findP_some hf
    exact ⟨q, by rw [h2, List.getElem?_eq_getElem hi, e], by rw [h2]; exact hf⟩
theorem patI_one {L : List PatV} {i : Nat} {p : PatV} (hp : (namesH L)[i]? = some p.1) (hf : findP L p.1 = some p) : ((namesH L)[i]?.bind (findP L)) = some p := by
  rw [hp]; exact hf
theorem patI_snoc {L : List PatV} {S : List Nat} {i : Nat} {p : PatV} (hp : (namesH L)[i]? = some p.1) (hf : findP L p.1 = some p) : patI L (S ++ [i]) = patI L S ++ [p] := by
  unfold patI
  rw [List.filterMap_append, List.filterMap_cons, patI_one hp hf]
  rfl
theorem patI_mem {L : List PatV} {S : List Nat} {q : PatV} : q ∈ patI L S ↔ ∃ i ∈ S, (namesH L)[i]? = some q.1 ∧ findP L q.1 = some q := by
  unfold patI
  rw [List.mem_filterMap]
  constructor
  · rintro ⟨i, hi, e⟩
    cases hn : (namesH L)[i]? with
    | none => rw [hn] at e; cases e
    | some d =>
      rw [hn] at e
      obtain ⟨_, h2⟩ := findP_some e
      subst h2
      exact ⟨i, hi, hn, e⟩
  · rintro ⟨i, hi, hn, hf⟩
    exact ⟨i, hi, patI_one hn hf⟩
theorem patI_len {L : List PatV} : ∀ {S : List Nat}, (∀ i ∈ S, i < (namesH L).length) → (patI L S).length = S.length
  | [], _ => rfl
  | i :: S, h => by
    obtain ⟨p, h1, h2⟩ := patI_at (h i (by simp))
    unfold patI
    rw [List.filterMap_cons, patI_one h1 h2]
    have := patI_len (S := S) fun j hj => h j (by simp [hj])
    unfold patI at this
    simp [this]
theorem firstDep_mem {p : PatV} (h : patB p = true) {d : PidV} (hd : d ∈ firstDep p.1) : d ∈ p.2.1 := by
  unfold patB at h
  simp only [Bool.and_eq_true, decide_eq_true_eq] at h
  rw [h.2.2.2.1]
  exact (setK_mem keyP_inj _ _).2 (List.mem_append.2 (.inl hd))
/-- a patch can be put if all that it hangs on was -/
theorem put_next {L : List PatV} (h : IdxOk L) {S : List Nat} (hX : IdxOk (patI L S)) {i : Nat} {p : PatV} (hp : (namesH L)[i]? = some p.1) (hf : findP L p.1 = some p) (hi : i ∉ S) (hap : ∀ j, relH L j i = true → j ∈ S) : idxE (patI L S) p = 0 := by
  have hpm := (findP_some hf).1
  have hg := h.good p hpm
  have hno : ∀ q ∈ patI L S, q.1 ≠ p.1 := fun q hq e => by
    obtain ⟨j, hj, h1, _⟩ := patI_mem.1 hq
    have : j = i := by
      have a := placeD_at (namesH_nodup L) h1
      have b := placeD_at (namesH_nodup L) hp
      rw [e] at a
      omega
    exact hi (this ▸ hj)
  have hdep : ∀ d ∈ p.2.1, hasP (vecL (patI L S)) d = true := fun d hd => by
    obtain ⟨hm, _⟩ := dep_ahead h p hpm d hd
    obtain ⟨x, hx, rfl⟩ := List.mem_map.1 hm
    have hD : x.1 ∈ namesH L := (namesH_mem L x.1).2 ⟨x, hx, rfl⟩
    obtain ⟨a, ha, e⟩ := List.getElem_of_mem hD
    obtain ⟨y, hy1, hy2⟩ := patI_at ha
    have he : x.1 = y.1 := by rw [List.getElem?_eq_getElem ha, e] at hy1; exact Option.some.inj hy1
    have hr : relH L a i = true := (relH_iff L a i).2 (.edge (mem_stepsH.2 ⟨p, x.1, hp, hf, hd, by rw [hy1, he]⟩))
    exact (hX.has x.1).2 ⟨y, patI_mem.2 ⟨a, hap a hr, hy1, hy2⟩, he.symm⟩
  refine idxE_of hg (findP_none.2 hno) hdep ?_
  have hv := hX.hasnt hno
  have hb := ofV_bd (vecL_ok (patI L S)) p.1.1.val
  have hpid : pidOk ((p.1.1.val : Nat) : Int) ((p.1.2.val : Nat) : Int) = true := by
    unfold patB at hg
    simp only [Bool.and_eq_true] at hg
    exact hg.1
  unfold pidOk at hpid
  simp only [Bool.and_eq_true, decide_eq_true_eq] at hpid
  have hin : inV p.1.1.val = true := by unfold inV; exact decide_eq_true (by omega)
  have hlt : ofV (vecL (patI L S)) p.1.1.val < ((p.1.2.val : Nat) : Int) := by
    unfold hasP hasV at hv
    rw [hin, Bool.true_and, decide_eq_false_iff_not] at hv
    omega
  have heq : ofV (vecL (patI L S)) p.1.1.val + 1 = ((p.1.2.val : Nat) : Int) := by
    by_cases h1 : 1 < p.1.2.val
    · have hd := hdep (p.1.1, ⟨p.1.2.val - 1, by have := p.1.2.isLt; omega⟩) (firstDep_mem hg (by unfold firstDep; rw [dif_pos h1]; simp))
      unfold hasP hasV at hd
      simp only [hin, Bool.true_and, decide_eq_true_eq] at hd
      omega
    · omega
  rw [putB_next hg]
  unfold nextB nextV
  rw [if_pos ⟨hin, by omega⟩]
  simp only [decide_true, Bool.true_and]
  exact decide_eq_true heq
/-- left without one: what comes ahead of what is left is left -/
theorem without_ahead {L : List PatV} {p j i : Nat} (hr : relH L j i = true) (hq : withoutR (relH L) (p : Int) i = true) : withoutR (relH L) (p : Int) j = true := by
  unfold withoutR at hq ⊢
  rw [hasR_nat, Bool.and_eq_true, Bool.not_eq_true', Bool.not_eq_true', decide_eq_false_iff_not] at hq ⊢
  refine ⟨fun e => ?_, ?_⟩
  · have : j = p := by omega
    subst this
    rw [hr] at hq; exact absurd hq.2 (by decide)
  · cases hc : relH L p j
    · rfl
    · rw [(relH_trans L).trans hc hr] at hq; exact absurd hq.2 (by decide)
theorem someK_lenF {D : List PidV} : ∀ {F : List Nat}, (∀ i ∈ F, i < D.length) → (F.filterMap (D[·]?)).length = F.length
  | [], _ => rfl
  | i :: F, h => by
    rw [List.filterMap_cons, List.getElem?_eq_getElem (h i (by simp))]
    simp [someK_lenF (F := F) fun j hj => h j (by simp [hj])]
theorem someD_len (D : List PidV) (q : Nat → Bool) : (someD D q).length = ((List.range D.length).filter q).length := by
  unfold someD someK
  exact someK_lenF fun i hi => List.mem_range.1 (List.mem_filter.1 hi).1
theorem range_one (p : Nat) : ∀ n, p < n → ((List.range n).filter fun i => decide (i = p)).length = 1
  | 0, h => by omega
  | n + 1, h => by
    rw [List.range_succ, List.filter_append, List.length_append]
    by_cases e : n = p
    · subst e
      have : ((List.range n).filter fun i => decide (i = n)) = [] := List.filter_eq_nil_iff.2 fun i hi => by
        have := List.mem_range.1 hi
        simp; omega
      rw [this]; simp
    · rw [range_one p n (by omega)]; simp [e]
theorem three_parts {a b c : Nat → Bool} : ∀ {l : List Nat}, (∀ i ∈ l, (a i).toNat + (b i).toNat + (c i).toNat = 1) → (l.filter a).length + (l.filter b).length + (l.filter c).length = l.length
  | [], _ => rfl
  | i :: l, h => by
    have h1 := h i (by simp)
    have ih := three_parts (l := l) fun j hj => h j (by simp [hj])
    simp only [List.filter_cons]
    cases ha : a i <;> cases hb : b i <;> cases hc : c i <;> rw [ha, hb, hc] at h1 <;> simp at h1 ⊢ <;> omega
theorem parts_len {L : List PatV} (h : IdxOk L) {p : Nat} (hp : p < (namesH L).length) :
    (someD (namesH L) fun i => withoutR (relH L) (p : Int) i).length + (someD (namesH L) fun i => hasR (relH L) (p : Int) (i : Int)).length + 1 = (namesH L).length := by
  rw [someD_len, someD_len]
  have h3 := three_parts (a := fun i => withoutR (relH L) (p : Int) i) (b := fun i => hasR (relH L) (p : Int) (i : Int)) (c := fun i => decide (i = p)) (l := List.range (namesH L).length) fun i _ => by
    unfold withoutR
    rw [hasR_nat]
    by_cases e : i = p
    · subst e
      rw [relH_irr h]
      simp
    · have e' : ¬ (i : Int) = (p : Int) := by omega
      rw [decide_eq_false e, decide_eq_false e']
      cases relH L p i <;> rfl
  rw [range_one p _ hp, List.length_range] at h3
  exact h3
theorem ord_len (L : List PatV) : (ordR (relH L) (namesH L).length).length = (namesH L).length := (ordR_told (relH_trans L)).2
theorem ord_all (L : List PatV) (i : Nat) : i ∈ ordR (relH L) (namesH L).length ↔ i < (namesH L).length := by
  obtain ⟨h1, h2⟩ := ordR_told (relH_trans L)
  constructor
  · exact h1.lt i
  · intro hi
    refine Classical.byContradiction fun hn => ?_
    have := (List.nodup_cons.2 ⟨hn, h1.nodup⟩).length_le_of_subset (l₂ := List.range (namesH L).length) fun j hj => by
      rcases List.mem_cons.1 hj with rfl | hj
      · exact List.mem_range.2 hi
      · exact List.mem_range.2 (h1.lt j hj)
    rw [List.length_range, List.length_cons, h2] at this
    omega
theorem ord_perm (L : List PatV) : (ordR (relH L) (namesH L).length).Perm (List.range (namesH L).length) :=
  (List.perm_ext_iff_of_nodup (ordR_told (relH_trans L)).1.nodup List.nodup_range).2 fun i => by rw [ord_all, List.mem_range]
theorem left_len (L : List PatV) (q : Nat → Bool) : (patI L ((ordR (relH L) (namesH L).length).filter q)).length = (someD (namesH L) q).length := by
  rw [patI_len fun i hi => (ord_all L i).1 (List.mem_filter.1 hi).1, someD_len]
  exact ((ord_perm L).filter q).length_eq
theorem all_vec {L : List PatV} (h : IdxOk L) (hY : IdxOk (patI L (ordR (relH L) (namesH L).length))) : vecL (patI L (ordR (relH L) (namesH L).length)) = vecL L := by
  refine vec_eq_of_has (vecL_ok _) (vecL_ok _) fun d => ?_
  rw [Bool.eq_iff_iff, hY.has, h.has]
  constructor
  · rintro ⟨q, hq, rfl⟩
    obtain ⟨i, _, _, hf⟩ := patI_mem.1 hq
    exact ⟨q, (findP_some hf).1, rfl⟩
  · rintro ⟨q, hq, rfl⟩
    obtain ⟨a, ha, e⟩ := List.getElem_of_mem ((namesH_mem L q.1).2 ⟨q, hq, rfl⟩)
    obtain ⟨y, h1, h2⟩ := patI_at ha
    have he : q.1 = y.1 := by rw [List.getElem?_eq_getElem ha, e] at h1; exact Option.some.inj h1
    exact ⟨y, patI_mem.2 ⟨a, (ord_all L a).2 ha, h1, h2⟩, he.symm⟩
theorem names_all {L : List PatV} (h : IdxOk L) : (namesH L).length = L.length := by
  have := ((List.perm_ext_iff_of_nodup (namesH_nodup L) h.nodup).2 fun d => by rw [namesH_mem, List.mem_map]).length_eq
  rwa [List.length_map] at this
end Go.Proofs.YtnhbbggpgieipaaGreat

/- Whether a name is in a list: walked. -/
namespace Go.Proofs.YtnhbbggpgieipaaGreat
open Go.RowKit

theorem eqgP (x y : Operand) (u v : PidV) (w : World) : (eqGuard .eql 33 x y (.agg (encP u).toArray) (.agg (encP v).toArray)).run Tryz.prog w = .ok () w := by kernel_rfl
theorem eqlPy {x y : PidV} (h : x = y) (u : World) : (binOp .eql 33 (.agg (encP x).toArray) (.agg (encP y).toArray)).run Tryz.prog u = .ok (.bool true) u := by rw [eqlP, decide_eq_true h]
theorem eqlPn {x y : PidV} (h : ¬ x = y) (u : World) : (binOp .eql 33 (.agg (encP x).toArray) (.agg (encP y).toArray)).run Tryz.prog u = .ok (.bool false) u := by rw [eqlP, decide_eq_false h]
set_option maxRecDepth 100000 in
set_option maxHeartbeats 2000000 in
theorem in48_any (l : List PidV) (w : World) (A : Option Addr) (n c : Nat) (hm : n ≤ maxLen) (h : PidsAt w A n l) (d : PidV) :
    Calls Tryz.prog 34 #[.slice A n c, .agg (encP d).toArray] w (RetB w (.bool (decide (d ∈ l)))) := by
  unfold maxLen at hm
  have KP : Hid (Blk (w.alloc (.cells (encP d).toArray 33)) w.heap.size 33 (encP d).toArray) := Blk.new _ _ _
  have B0 : Hid (Below w.heap.size w (w.alloc (.cells (encP d).toArray 33))) := below_new _ _
  have PT := Lib.hid (h.ext B0.out)
  have hln := h.len
  clear h
  go_enter Tryz.func34, Tryz.ntmps34
  go_upto_region 1 with fail
  generalize (w.alloc (.cells (encP d).toArray 33)) = w2 at *
  obtain ⟨gd, hgd⟩ : ∃ gd, gd = w.heap.size := ⟨_, rfl⟩
  rw [← hgd] at KP ⊢
  replace hgd := Lib.hid hgd
  have BR := Lib.hid (Below.refl w2.heap.size w2)
  go_wp2_with fail
  go_loopw [5] (fun v wr => ∃ k : Nat, k ≤ n ∧ v = .int .i64 k ∧ Hid (d ∉ l.take k) ∧ Hid (Below w2.heap.size w2 wr)) (fun v _ => n - (intOf v).toNat)
  case atStart => exact ⟨0, by omega, rfl, fun h => by simp at h, BR.out⟩
  case round =>
    clear BR
    obtain ⟨k, hk, rfl, NI, B⟩ := hrel
    have hk0 : (0 : Int) ≤ (k : Int) := by omega
    by_cases hlt : k < n
    · have hlk : (k : Int) < (n : Int) := by omega
      obtain ⟨b, o, x, rfl, hb, hx, hr⟩ := PT.out.at_ hlt
      have RA := Lib.hid (rangeAt_below hr B.out hb)
      have KB := Lib.hid (KP.out.ext B.out)
      have QA : Hid (∀ w', (∃ n, w' = wr.drewN n) → w'.rangeAt b (o + k * 2) (encP x)) := by rintro _ ⟨n, rfl⟩; exact RA.out
      have QB : Hid (∀ w', (∃ n, w' = wr.drewN n) → w'.rangeAt gd 0 (encP d)) := by rintro _ ⟨n, rfl⟩; exact KB.out.range
      have HX := Lib.hid hx
      clear hr hb hx RA KB
      by_cases e : x = d
      · have EQ := eqlPy e
        have N : Hid (decide (d ∈ l) = true) := decide_eq_true (by rw [← e]; exact List.mem_of_getElem? HX.out)
        clear e HX NI
        go_wp2_with fail
        refine wp_region_quiet_lit (by kernel_rfl) (by kernel_rfl) ?_
        repeat (first | (refine wpQuiet_load_mid QA.out underPid rfl infoPid rfl rfl ?_; simp only [List.set_cons_succ, List.set_cons_zero]) | (refine wpQuiet_load_mid QB.out underPid rfl infoPid rfl rfl ?_; simp only [List.set_cons_succ, List.set_cons_zero]) | go_big_quiet_step (fail))
        refine wpQuiet_nil ?_
        rintro _ ⟨nq, rfl⟩
        have BW := Lib.hid (B0.out.trans ((B.out.trans (below_drewN (Below.refl _ _) nq |>.mono B.out.size)).mono B0.out.size))
        go_wp2
        go_ret
        exact ⟨by rw [N.out]; rfl, BW.out⟩
      · have EQ := eqlPn e
        have NI2 : Hid (d ∉ l.take (k + 1)) := by
          rw [Hid, List.take_add_one, HX.out, List.mem_append]
          rintro (h | h)
          · exact NI.out h
          · simp only [Option.toList, List.mem_singleton] at h
            exact e h.symm
        clear e HX NI
        go_wp2_with fail
        refine wp_region_quiet_lit (by kernel_rfl) (by kernel_rfl) ?_
        repeat (first | (refine wpQuiet_load_mid QA.out underPid rfl infoPid rfl rfl ?_; simp only [List.set_cons_succ, List.set_cons_zero]) | (refine wpQuiet_load_mid QB.out underPid rfl infoPid rfl rfl ?_; simp only [List.set_cons_succ, List.set_cons_zero]) | go_big_quiet_step (fail))
        refine wpQuiet_nil ?_
        rintro _ ⟨nq, rfl⟩
        have B2 := Lib.hid (B.out.trans (below_drewN (Below.refl _ _) nq |>.mono B.out.size))
        clear B QA QB EQ
        generalize wr.drewN nq = w4 at *
        go_wp2_with fail
        go_roundw
        case rel => exact ⟨k + 1, by omega, by go_num, NI2.out, B2.out⟩
        case measure => simp [intOf]; omega
    · have hlk : ¬ (k : Int) < (n : Int) := by omega
      have N : Hid (decide (d ∈ l) = false) := decide_eq_false fun h => NI.out (by rw [List.take_of_length_le (by omega)]; exact h)
      have BW := Lib.hid (B0.out.trans (B.out.mono B0.out.size))
      go_wp2
      go_ret
      exact ⟨by rw [N.out]; rfl, BW.out⟩
theorem indexNames (b o n c k : Nat) (hk : k < n) (w : World) : (Instr.indexAt 34 (.slice (some ⟨b, o, none⟩) n c) (.int .i64 ((k : Nat) : Int))).run Tryz.prog w = .ok (.pointer (some ⟨b, o + k * 2, none⟩)) w := by
  have h0 : (0 : Int) ≤ (k : Int) := by omega
  have h1 : (k : Int) < (n : Int) := by omega
  simp [go_sem, h0, h1]
end Go.Proofs.YtnhbbggpgieipaaGreat

/- Who is without a patch has all else that he needs: walked. -/
namespace Go.Proofs.YtnhbbggpgieipaaGreat
open Go.RowKit

theorem someD_mem {D : List PidV} {q : Nat → Bool} {x : PidV} : x ∈ someD D q ↔ ∃ i, i < D.length ∧ q i = true ∧ D[i]? = some x := someK_mem
theorem place_uniq {D : List PidV} (hD : D.Nodup) {i j : Nat} {x : PidV} (h1 : D[i]? = some x) (h2 : D[j]? = some x) : i = j := by
  have a := placeD_at hD h1
  have b := placeD_at hD h2
  omega
theorem namesAt_at {D : List PidV} {O : List Nat} (h : ∀ i ∈ O, i < D.length) {k i : Nat} (hk : O[k]? = some i) : (namesAt D O)[k]? = D[i]? := by
  induction O generalizing k with
  | nil => simp at hk
  | cons j O ih =>
    have hj := h j (by simp)
    unfold namesAt
    rw [List.filterMap_cons, List.getElem?_eq_getElem hj]
    match k, hk with
    | 0, hk =>
      simp only [List.getElem?_cons_zero, Option.some.injEq] at hk
      subst hk
      simp
    | k + 1, hk =>
      simp only [List.getElem?_cons_succ] at hk ⊢
      exact ih (fun i hi => h i (by simp [hi])) hk
theorem namesAt_lenF {D : List PidV} {O : List Nat} (h : ∀ i ∈ O, i < D.length) : (namesAt D O).length = O.length := someK_lenF h
theorem stay_of {G : Nat → Prop} {a b c : World} (h : Stay G a b) (k : Stay G b c) : Stay G a c :=
  ⟨Nat.le_trans h.1 k.1, fun i hi hg => (k.2 i (Nat.lt_of_lt_of_le hi h.1) hg).trans (h.2 i hi hg)⟩
theorem Stay.refl (G : Nat → Prop) (w : World) : Stay G w w := ⟨Nat.le_refl _, fun _ _ _ => rfl⟩
/-- two indexes that lie apart, both made from block b on, but for what lies between -/
structure TwoAt (b c d : Nat) (w : World) (gy gz : Nat) (Y Z : List PatV) : Prop where
  ex : ∃ Fy Fz, IdxAt w Fy gy Y ∧ IdxAt w Fz gz Z ∧ (∀ q, Fy q → ¬ Fz q) ∧ ∀ q, Fy q ∨ Fz q → (b ≤ q ∧ q < c) ∨ d ≤ q
theorem TwoAt.ext {b c d gy gz : Nat} {w w' : World} {Y Z : List PatV} (h : TwoAt b c d w gy gz Y Z) (hb : Below w.heap.size w w') : TwoAt b c d w' gy gz Y Z := by
  obtain ⟨Fy, Fz, h1, h2, h3⟩ := h.ex
  exact ⟨Fy, Fz, h1.ext hb, h2.ext hb, h3⟩
/-- a patch is put into the one -/
theorem TwoAt.putY {b c d gy gz : Nat} {w w' : World} {F : Nat → Prop} {Z Y' : List PatV} {Fz : Nat → Prop} (hz : IdxAt w Fz gz Z) (hd : ∀ q, F q → ¬ Fz q) (hb : ∀ q, F q ∨ Fz q → (b ≤ q ∧ q < c) ∨ d ≤ q) (hw : d ≤ w.heap.size)
    (hk : Kept F w w') (hy : ∃ F', IdxAt w' F' gy Y' ∧ ∀ k, F' k → F k ∨ w.heap.size ≤ k) : TwoAt b c d w' gy gz Y' Z := by
  obtain ⟨F', h1, h2⟩ := hy
  refine ⟨F', Fz, h1, hz.stay (hk.stay fun k _ h3 h4 => hd k h4 h3), fun q h3 h4 => ?_, fun q h3 => ?_⟩
  · rcases h2 q h3 with h5 | h5
    · exact hd q h5 h4
    · have := hz.lt q h4; omega
  · rcases h3 with h3 | h3
    · rcases h2 q h3 with h5 | h5
      · exact hb q (.inl h5)
      · exact .inr (by omega)
    · exact hb q (.inr h3)
theorem TwoAt.putZ {b c d gy gz : Nat} {w w' : World} {F : Nat → Prop} {Y Z' : List PatV} {Fy : Nat → Prop} (hy : IdxAt w Fy gy Y) (hd : ∀ q, Fy q → ¬ F q) (hb : ∀ q, Fy q ∨ F q → (b ≤ q ∧ q < c) ∨ d ≤ q) (hw : d ≤ w.heap.size)
    (hk : Kept F w w') (hz : ∃ F', IdxAt w' F' gz Z' ∧ ∀ k, F' k → F k ∨ w.heap.size ≤ k) : TwoAt b c d w' gy gz Y Z' := by
  obtain ⟨F', h1, h2⟩ := hz
  refine ⟨Fy, F', hy.stay (hk.stay fun k _ h3 h4 => hd k h3 h4), h1, fun q h3 h4 => ?_, fun q h3 => ?_⟩
  · rcases h2 q h4 with h5 | h5
    · exact hd q h3 h5
    · have := hy.lt q h3; omega
  · rcases h3 with h3 | h3
    · exact hb q (.inl h3)
    · rcases h2 q h3 with h5 | h5
      · exact hb q (.inr h5)
      · exact .inr (by omega)
set_option maxRecDepth 100000 in
set_option maxHeartbeats 16000000 in
theorem hangOrders_walk (w : World) (l : List PatV) (A : Option Addr) (n c : Nat) (hm : n ≤ maxLen) (h : PatsAt w A n l) (kk : Int) (hkk : (Lit.int .u8 kk).wf = true) :
    Calls Tryz.prog 4 #[.slice A n c, .int .u8 kk] w (RetB w (.bool true)) := by
  obtain ⟨fr0, fr1⟩ := u8_of hkk
  obtain ⟨q, rfl⟩ := Int.eq_ofNat_of_zero_le fr0
  have H0 := Lib.hid h
  clear h hkk
  go_enter Tryz.func4, Tryz.ntmps4
  have HF := Lib.hid (few20_any l w A n c 12 H0.out hm)
  cases hf : fewsB l 12
  · rw [fewsN_false hf] at HF
    go_wp2_with fail
    refine HF.out.mono ?_
    rintro e w3 ⟨rfl, b3⟩
    have B3 := Lib.hid b3
    clear b3 HF
    go_wp2_with fail
    refine (works48 _).mono ?_
    rintro e w4 ⟨rfl, b4⟩
    have B4 := Lib.hid (B3.out.trans (b4.mono B3.out.size))
    clear b4
    go_wp2
    go_ret
    exact ⟨rfl, B4.out⟩
  · rw [fewsN_true hf] at HF
    have HQ := Lib.hid (fews_at hf)
    have hn12 : n ≤ 12 := by have h1 := HQ.out.1; have h2 := H0.out.len; omega
    go_wp2_with fail
    refine HF.out.mono ?_
    rintro e w3 ⟨rfl, b3⟩
    have B3 := Lib.hid b3
    have PT := Lib.hid (H0.out.ext b3)
    clear b3 HF hf H0
    go_wp2_with fail
    refine (new31_any _).mono ?_
    rintro e w4 ⟨g, rfl, hI, b4⟩
    have HI0 : Hid (∃ F, IdxAt w4 F g (madeL (l.take 0)) ∧ ∀ q, F q → w3.heap.size ≤ q) := ⟨fun k => w3.heap.size ≤ k ∧ k < w4.heap.size, by rw [List.take_zero]; exact hI, fun q e => e.1⟩
    have B4 := Lib.hid b4
    clear hI b4
    go_wp2_with fail
    go_loopw [6] (fun i wr => ∃ k : Nat, k ≤ n ∧ i = .int .i64 k ∧ Hid (∃ F, IdxAt wr F g (madeL (l.take k)) ∧ ∀ q, F q → w3.heap.size ≤ q) ∧ Hid (Below w3.heap.size w3 wr)) (fun i _ => n - (intOf i).toNat)
    case atStart => exact ⟨0, by omega, rfl, HI0.out, B4.out⟩
    case round =>
      clear HI0 B4
      obtain ⟨k, hk, rfl, HI, B⟩ := hrel
      have hk0 : (0 : Int) ≤ (k : Int) := by omega
      by_cases hlt : k < n
      · have hlk : (k : Int) < (n : Int) := by omega
        obtain ⟨F, HI, hF⟩ := HI.out
        have HI := Lib.hid HI
        have hF := Lib.hid hF
        obtain ⟨b, o, p, r, rfl, hb, hp, pa, R⟩ := PT.out.at_ hlt
        have R := Lib.hid (rangeAt_below R B.out hb)
        have PA := Lib.hid (pa.ext B.out)
        have hq := Lib.hid (HQ.out.2 p (List.mem_of_getElem? hp))
        have hl : Hid ((madeL (l.take k)).length ≤ 10000) := Nat.le_trans (madeL_len _) (by rw [List.length_take]; omega)
        obtain ⟨⟨A1, c1, A2, c2, rfl, _, _⟩, _, _⟩ := PA.out
        have N := Lib.hid (madeL_snoc hp)
        have HP := Lib.hid (put31_any HI.out hl.out p _ PA.out ⟨by have := hq.out.1; omega, by have := hq.out.2; omega⟩)
        clear pa hp PA
        go_wp2_with (refine wpList_load_mid rfl 37 _ (by rfl) b (o + k * 4) (by rfl) _ _ R.out underPat rfl infoPat ?_)
        refine HP.out.mono ?_
        rintro e w5 ⟨rfl, kp, F', HI', hF'⟩
        have B5 := Lib.hid (B.out.trans (kp.below hF.out B.out.size))
        have HI5 : Hid (∃ F, IdxAt w5 F g (madeL (l.take (k + 1))) ∧ ∀ k, F k → w3.heap.size ≤ k) := ⟨F', by rw [N.out]; exact HI', fun x e => (hF' x e).elim (hF.out x) (fun e => Nat.le_trans B.out.size e)⟩
        clear kp HI' hF' HP R HI
        go_wp2_with fail
        go_roundw
        case rel => exact ⟨k + 1, by omega, by go_num, HI5.out, B5.out⟩
        case measure => simp [intOf]; omega
      · have hk' : k = n := by omega
        subst hk'
        rw [List.take_of_length_le (Nat.le_of_eq PT.out.len)] at HI
        obtain ⟨F, hI, hF⟩ := HI.out
        have hLn : (madeL l).length ≤ 12 := Nat.le_trans (madeL_len l) (by have := PT.out.len; omega)
        have IOK := Lib.hid hI.ok
        have HX := Lib.hid hI
        have BX := Lib.hid (B3.out.trans (B.out.mono B3.out.size))
        have hFx : Hid (∀ q, F q → q < wr.heap.size) := hI.lt
        clear hI hF HI PT HQ B B3
        generalize madeL l = L at *
        have HD : Hid (∀ p ∈ L, p.2.1.length ≤ 1000) := fun p hp => (patB_len (IOK.out.good p hp)).1
        have HD2 : Hid (∀ p ∈ L, p.2.1.length ≤ 100000 ∧ p.2.2.length ≤ 100000) := fun p hp => by
          have := patB_len (IOK.out.good p hp)
          omega
        have hsr : wr.heap.size ≤ wr.heap.size := Nat.le_refl _
        go_wp2_with fail
        refine (all31_any HX.out (by omega)).mono ?_
        rintro e w6 ⟨s, rfl, O, b6⟩
        obtain ⟨A1, c1, rfl, _⟩ := O.slice
        have PA := Lib.hid O.pats.at_
        have HX := Lib.hid (HX.out.ext b6)
        have BX := Lib.hid (BX.out.trans (b6.mono BX.out.size))
        have hFx : Hid (∀ q, F q → q < w6.heap.size) := fun q e => Nat.lt_of_lt_of_le (hFx.out q e) b6.size
        clear O b6 hsr
        go_wp2_with fail
        refine (of48_any PA.out (by omega) HD.out).mono ?_
        rintro e w7 ⟨gh, rfl, hA, b7⟩
        have HA := Lib.hid hA
        have HX := Lib.hid (HX.out.ext b7)
        have BX := Lib.hid (BX.out.trans (b7.mono BX.out.size))
        have hFx : Hid (∀ q, F q → q < w7.heap.size) := fun q e => Nat.lt_of_lt_of_le (hFx.out q e) b7.size
        clear hA b7 PA
        go_wp2_with fail
        refine (all48_any HA.out).mono ?_
        rintro e w8 ⟨_, rfl, oo, b8⟩
        obtain ⟨AD, cD, rfl, _, pp⟩ := PidsAt.of_own oo rfl
        have PD := Lib.hid pp
        have HA := Lib.hid (HA.out.ext b8)
        have HX := Lib.hid (HX.out.ext b8)
        have BX := Lib.hid (BX.out.trans (b8.mono BX.out.size))
        have hFx : Hid (∀ q, F q → q < w8.heap.size) := fun q e => Nat.lt_of_lt_of_le (hFx.out q e) b8.size
        clear oo pp b8
        have hDL : (namesH L).length = L.length := names_all IOK.out
        obtain ⟨N, hN⟩ : ∃ N, N = (namesH L).length := ⟨_, rfl⟩
        have hLN : L.length = N := by omega
        rw [← hN] at PD ⊢
        replace hN := Lib.hid hN
        by_cases h0 : N = 0
        · have hz : Hid (L.length = 0) := by rw [Hid]; omega
          have h1 : ((N : Int) == 0) = true := by subst h0; rfl
          have h2 : (((L.length : Nat) : Int) == 0) = true := by rw [hz.out]; rfl
          go_wp2_with fail
          refine (len31_any HX.out).mono ?_
          rintro e _ ⟨rfl, rfl⟩
          go_wp2_with fail
          refine (works48 _).mono ?_
          rintro e wz ⟨rfl, bb⟩
          have BX := Lib.hid (BX.out.trans (bb.mono BX.out.size))
          clear bb
          go_wp2
          go_ret
          exact ⟨rfl, BX.out⟩
        · have h1 : ((N : Int) == 0) = false := by rw [beq_eq_false_iff_ne]; omega
          have hNp : 0 < N := Nat.pos_of_ne_zero h0
          have hNi : ¬ (N : Int) = 0 := by omega
          obtain ⟨m, hmq, hmN⟩ : ∃ m : Nat, (q : Int) % (N : Int) = (m : Int) ∧ m < N := ⟨q % N, by simp, Nat.mod_lt q hNp⟩
          have hm0 : (0 : Int) ≤ (m : Int) := by omega
          have hmi : (m : Int) < (N : Int) := by omega
          obtain ⟨bD, oD, d, rfl, hbD, hd, rD⟩ := PD.out.at_ hmN
          have PM : Hid (placeD (namesH L) d = (m : Int)) := placeD_at (namesH_nodup L) hd
          have RD := Lib.hid rD
          have DM := Lib.hid hd
          have KZ : Hid (Blk (w8.alloc (.cells #[.int .u8 0, .int .u16 0] 33)) w8.heap.size 33 #[.int .u8 0, .int .u16 0]) := Blk.new _ _ _
          have KP : Hid (Blk ((w8.alloc (.cells #[.int .u8 0, .int .u16 0] 33)).setRow w8.heap.size (encP d).toArray) w8.heap.size 33 (encP d).toArray) := KZ.out.row _
          have BN : Hid (Below w8.heap.size w8 ((w8.alloc (.cells #[.int .u8 0, .int .u16 0] 33)).setRow w8.heap.size (encP d).toArray)) := below_setRow (below_new w8 _) (Nat.le_refl _) _
          clear rD hd
          go_upto_region 13 with (first
            | (refine wpList_load_mid rfl 33 _ (by rfl) bD (oD + m * 2) (by rfl) _ _ RD.out underPid rfl infoPid ?_)
            | (refine wpList_alloced (allocPI _) ?_)
            | (refine wpList_store_row rfl 33 _ _ (by rfl) w8.heap.size (encP d).toArray (by rfl) (by rfl) _ _ KZ.out infoPid rfl (encP_all d) ?_))
          try go_frame
          generalize ((w8.alloc (.cells #[.int .u8 0, .int .u16 0] 33)).setRow w8.heap.size (encP d).toArray) = w9 at *
          have HA := Lib.hid (HA.out.ext BN.out)
          have HX := Lib.hid (HX.out.ext BN.out)
          have BX := Lib.hid (BX.out.trans (BN.out.mono BX.out.size))
          have hF9 : Hid (∀ q, F q → q < w9.heap.size) := fun q e => Nat.lt_of_lt_of_le (hFx.out q e) BN.out.size
          clear KZ BN RD PD hbD hmq fr0 fr1 hFx
          generalize w8.heap.size = gp at *
          have hFx := hF9
          clear hF9
          have hcA : ∀ args u, (callFunc 32 args).run Tryz.prog u = .ok (.enter 32 args) u := enters_of Tryz.func32 (by kernel_rfl) rfl
          have hcB : ∀ args u, (callFunc 33 args).run Tryz.prog u = .ok (.enter 33 args) u := enters_of Tryz.func33 (by kernel_rfl) rfl
          have hcI : ∀ args u, (callFunc 34 args).run Tryz.prog u = .ok (.enter 34 args) u := enters_of Tryz.func34 (by kernel_rfl) rfl
          have ND : Hid ((namesH L).Nodup) := namesH_nodup L
          have HAb : Hid (∀ (w' : World), Below w9.heap.size w9 w' → ∀ (x : PidV) (a : Nat), (namesH L)[a]? = some x → Calls Tryz.prog 32 #[.pointer (some ⟨gh, 0, none⟩), .agg (encP x).toArray] w' (OwnedRet w' 33 2 (someD (namesH L) fun i => relH L i a).length ((someD (namesH L) fun i => relH L i a).flatMap encP))) := fun w' hb x a hx => by
            have := above48_any (HA.out.ext hb) x
            rw [placeD_at ND.out hx] at this
            simpa only [hasR_nat] using this
          have HBl : Hid (∀ (w' : World), Below w9.heap.size w9 w' → ∀ (x : PidV) (a : Nat), (namesH L)[a]? = some x → Calls Tryz.prog 33 #[.pointer (some ⟨gh, 0, none⟩), .agg (encP x).toArray] w' (OwnedRet w' 33 2 (someD (namesH L) fun i => relH L a i).length ((someD (namesH L) fun i => relH L a i).flatMap encP))) := fun w' hb x a hx => by
            have := below48_any (HA.out.ext hb) x
            rw [placeD_at ND.out hx] at this
            simpa only [hasR_nat] using this
          have SL : Hid (∀ q : Nat → Bool, (someD (namesH L) q).length ≤ maxLen) := fun q => by
            have h1 := someK_len (namesH L) q (namesH L).length
            have := hN.out
            unfold maxLen someD; omega
          refine wp_region_held (S := fun w' => Below w9.heap.size w9 w') mixedS ?_
          change wpAnyH _ _ _ _ _ _ _ _ w9.drew
          have B10 : Hid (Below w9.heap.size w9 w9.drew) := (Below.refl _ _).drew
          generalize w9.drew = w10 at B10 ⊢
          simp only [List.size_toArray, List.length_cons, List.length_nil]
          refine takeV (i := 0) (d := 60) (v := .pointer (some ⟨gh, 0, none⟩)) rfl (by kernel_rfl) (by kernel_rfl) (by kernel_rfl) (fun _ _ _ h => h) rfl (fun _ _ => exMove (v := .pointer (some ⟨gh, 0, none⟩)) rfl) B10.out ?_
          simp only [Act.put, List.setIfInBounds_toArray, List.set_cons_zero, List.set_cons_succ]
          refine takeV (i := 1) (d := 61) (v := .agg (encP d).toArray) rfl (by kernel_rfl) (by kernel_rfl) (by kernel_rfl) (fun _ _ _ h => h) rfl (fun w' h => exMid rfl ((KP.out.ext h).range) underPid rfl infoPid) B10.out ?_
          simp only [Act.put, List.setIfInBounds_toArray, List.set_cons_zero, List.set_cons_succ]
          refine takeV (i := 3) (d := 63) (v := .pointer (some ⟨gh, 0, none⟩)) rfl (by kernel_rfl) (by kernel_rfl) (by kernel_rfl) (fun _ _ _ h => h) rfl (fun _ _ => exMove (v := .pointer (some ⟨gh, 0, none⟩)) rfl) B10.out ?_
          simp only [Act.put, List.setIfInBounds_toArray, List.set_cons_zero, List.set_cons_succ]
          refine takeV (i := 4) (d := 64) (v := .agg (encP d).toArray) rfl (by kernel_rfl) (by kernel_rfl) (by kernel_rfl) (fun _ _ _ h => h) rfl (fun w' h => exMid rfl ((KP.out.ext h).range) underPid rfl infoPid) B10.out ?_
          simp only [Act.put, List.setIfInBounds_toArray, List.set_cons_zero, List.set_cons_succ]
          refine wpAnyH_all (rs := [2]) (by kernel_rfl) (by simp) ?_
          intro i hi
          simp only [List.mem_cons, List.not_mem_nil, or_false] at hi
          subst hi
          refine wpOp_of rfl rfl (wp_called (args := #[.pointer (some ⟨gh, 0, none⟩), .agg (encP d).toArray]) hcA (by simp only [List.map_toArray, List.map_cons, List.map_nil]; rfl) (HAb.out w10 B10.out d m DM.out) ?_)
          rintro e w_1 ⟨_, rfl, o_3, h_2⟩
          obtain ⟨A_4, c_5, rfl, _, p_6⟩ := PidsAt.of_own o_3 rfl
          have P_7 := Lib.hid p_6
          refine ⟨_, rfl, ext_trans B10.out h_2, ?_⟩
          simp only [Act.put, List.setIfInBounds_toArray, List.set_cons_zero, List.set_cons_succ]
          have B_8 := Lib.hid (ext_trans B10.out h_2)
          clear B10
          clear o_3 h_2 p_6
          refine wpAnyH_all (rs := [5]) (by kernel_rfl) (by simp) ?_
          intro i hi
          simp only [List.mem_cons, List.not_mem_nil, or_false] at hi
          subst hi
          refine wpOp_of rfl rfl (wp_called (args := #[.pointer (some ⟨gh, 0, none⟩), .agg (encP d).toArray]) hcB (by simp only [List.map_toArray, List.map_cons, List.map_nil]; rfl) (HBl.out w_1 B_8.out d m DM.out) ?_)
          rintro e w_9 ⟨_, rfl, o_11, h_10⟩
          obtain ⟨A_12, c_13, rfl, _, p_14⟩ := PidsAt.of_own o_11 rfl
          have P_15 := Lib.hid p_14
          refine ⟨_, rfl, ext_trans B_8.out h_10, ?_⟩
          simp only [Act.put, List.setIfInBounds_toArray, List.set_cons_zero, List.set_cons_succ]
          have B_16 := Lib.hid (ext_trans B_8.out h_10)
          have F_17 := Lib.hid (P_7.out.ext h_10)
          clear B_8 P_7
          clear o_11 h_10 p_14
          refine takeV (i := 6) (d := 10) (v := .slice A_4 (someD (namesH L) fun i => relH L i m).length c_5) rfl (by kernel_rfl) (by kernel_rfl) (by kernel_rfl) (fun _ _ _ h => h) rfl (fun _ _ => exAssign (v := .slice A_4 (someD (namesH L) fun i => relH L i m).length c_5) rfl) B_16.out ?_
          simp only [Act.put, List.setIfInBounds_toArray, List.set_cons_zero, List.set_cons_succ]
          refine takeV (i := 7) (d := 11) (v := .slice A_12 (someD (namesH L) fun i => relH L m i).length c_13) rfl (by kernel_rfl) (by kernel_rfl) (by kernel_rfl) (fun _ _ _ h => h) rfl (fun _ _ => exAssign (v := .slice A_12 (someD (namesH L) fun i => relH L m i).length c_13) rfl) B_16.out ?_
          simp only [Act.put, List.setIfInBounds_toArray, List.set_cons_zero, List.set_cons_succ]
          refine wpAnyH_done (by kernel_rfl) ?_ _
          have HA := Lib.hid (HA.out.ext B_16.out)
          have HX := Lib.hid (HX.out.ext B_16.out)
          have BX := Lib.hid (BX.out.trans (B_16.out.mono BX.out.size))
          have KP := Lib.hid (KP.out.ext B_16.out)
          have hFx : Hid (∀ q, F q → q < w_9.heap.size) := fun q e => Nat.lt_of_lt_of_le (hFx.out q e) B_16.out.size
          have HAb : Hid (∀ (w' : World), Below w_9.heap.size w_9 w' → ∀ (x : PidV) (a : Nat), (namesH L)[a]? = some x → Calls Tryz.prog 32 #[.pointer (some ⟨gh, 0, none⟩), .agg (encP x).toArray] w' (OwnedRet w' 33 2 (someD (namesH L) fun i => relH L i a).length ((someD (namesH L) fun i => relH L i a).flatMap encP))) := fun w' hb => HAb.out w' (ext_trans B_16.out hb)
          have HBl : Hid (∀ (w' : World), Below w_9.heap.size w_9 w' → ∀ (x : PidV) (a : Nat), (namesH L)[a]? = some x → Calls Tryz.prog 33 #[.pointer (some ⟨gh, 0, none⟩), .agg (encP x).toArray] w' (OwnedRet w' 33 2 (someD (namesH L) fun i => relH L a i).length ((someD (namesH L) fun i => relH L a i).flatMap encP))) := fun w' hb => HBl.out w' (ext_trans B_16.out hb)
          clear B_16
          have UPm : Hid (∀ x ∈ someD (namesH L) (fun i => relH L i m), ∃ a, (namesH L)[a]? = some x ∧ relH L a m = true) := fun x hx => by
            obtain ⟨a, _, h1, h2⟩ := someD_mem.1 hx
            exact ⟨a, h2, h1⟩
          have DNm : Hid (∀ x ∈ someD (namesH L) (fun i => relH L m i), ∃ a, (namesH L)[a]? = some x ∧ relH L m a = true) := fun x hx => by
            obtain ⟨a, _, h1, h2⟩ := someD_mem.1 hx
            exact ⟨a, h2, h1⟩
          have INm : Hid (∀ (q : Nat → Bool) (x : PidV) (a : Nat), (namesH L)[a]? = some x → (x ∈ someD (namesH L) q ↔ q a = true)) := fun q x a hx => by
            constructor
            · intro h
              obtain ⟨b, _, h1, h2⟩ := someD_mem.1 h
              rwa [place_uniq ND.out hx h2]
            · intro h
              exact someD_mem.2 ⟨a, (List.getElem?_eq_some_iff.1 hx).1, h, hx⟩
          have RIR : Hid (∀ a, relH L a a = false) := fun a => relH_irr IOK.out a
          have RAS : Hid (∀ a b, relH L a b = true → relH L b a = false) := fun a b => relH_asym IOK.out
          have RTR : Hid (∀ a b c, relH L a b = true → relH L b c = true → relH L a c = true) := fun a b c => (relH_trans L).trans
          have LU := Lib.hid (SL.out fun i => relH L i m)
          have LD := Lib.hid (SL.out fun i => relH L m i)
          have hUb : (someD (namesH L) fun i => relH L i m).length ≤ 12 := by
            have h1 := someK_len (namesH L) (fun i => relH L i m) (namesH L).length
            have := hN.out
            unfold someD; omega
          have hDb : (someD (namesH L) fun i => relH L m i).length ≤ 12 := by
            have h1 := someK_len (namesH L) (fun i => relH L m i) (namesH L).length
            have := hN.out
            unfold someD; omega
          generalize hUP : (someD (namesH L) fun i => relH L i m) = UP at *
          generalize hDN : (someD (namesH L) fun i => relH L m i) = DN at *
          replace hUP := Lib.hid hUP
          replace hDN := Lib.hid hDN
          have BR := Lib.hid (Below.refl w_9.heap.size w_9)
          go_wp2_with fail
          go_loopw [12] (fun v wr => ∃ k : Nat, k ≤ UP.length ∧ v = .int .i64 k ∧ Hid (Below w_9.heap.size w_9 wr)) (fun v _ => UP.length - (intOf v).toNat)
          case atStart => exact ⟨0, by omega, rfl, BR.out⟩
          case round =>
            clear BR
            obtain ⟨k, hk, rfl, B⟩ := hrel
            have hk0 : (0 : Int) ≤ (k : Int) := by omega
            by_cases hlt : k < UP.length
            · have hlk : (k : Int) < (UP.length : Int) := by omega
              obtain ⟨bU, oU, x, rfl, hbU, hx, rx⟩ := (F_17.out.ext B.out).at_ hlt
              obtain ⟨a, ha, har⟩ := UPm.out x (List.mem_of_getElem? hx)
              have RX : Hid (∀ w', Below wr.heap.size wr w' → w'.rangeAt bU (oU + k * 2) (encP x)) := fun w' hb => rangeAt_below rx hb hbU
              have RP : Hid (∀ w', Below wr.heap.size wr w' → w'.rangeAt gp 0 (encP d)) := fun w' hb => ((KP.out.ext B.out).ext hb).range
              have NX : Hid (¬ x = d) := fun e => by
                subst e
                have := place_uniq ND.out ha DM.out
                subst this
                rw [RIR.out] at har; cases har
              have HIN : Hid (∀ w', Below wr.heap.size wr w' → Calls Tryz.prog 34 #[.slice A_12 DN.length c_13, .agg (encP x).toArray] w' (RetB w' (.bool false))) := fun w' hb => by
                have := in48_any DN w' A_12 DN.length c_13 LD.out ((P_15.out.ext B.out).ext hb) x
                rwa [decide_eq_false (fun hc => by
                  rw [← hDN.out] at hc
                  have := (INm.out _ x a ha).1 hc
                  rw [RAS.out _ _ har] at this; cases this)] at this
              have HBA : Hid (∀ w', Below wr.heap.size wr w' → Calls Tryz.prog 33 #[.pointer (some ⟨gh, 0, none⟩), .agg (encP x).toArray] w' (OwnedRet w' 33 2 (someD (namesH L) fun i => relH L a i).length ((someD (namesH L) fun i => relH L a i).flatMap encP))) := fun w' hb => HBl.out w' (ext_trans B.out hb) x a ha
              have HI2 : Hid (decide (d ∈ someD (namesH L) fun i => relH L a i) = true) := decide_eq_true ((INm.out _ d m DM.out).2 har)
              have HIX : Hid (∀ u : World, (Instr.indexAt 34 (.slice (some ⟨bU, oU, none⟩) UP.length c_5) (.int .i64 ((k : Nat) : Int))).run Tryz.prog u = .ok (.pointer (some ⟨bU, oU + k * 2, none⟩)) u) := fun u => indexNames bU oU UP.length c_5 k hlt u
              have XU := Lib.hid hx
              have AX := Lib.hid ha
              have AR := Lib.hid har
              clear hx rx ha har
              go_upto_region 17 with fail
              try go_frame
              refine wp_region_held (S := fun w' => Below wr.heap.size wr w') mixedS ?_
              change wpAnyH _ _ _ _ _ _ _ _ wr.drew
              have B21 : Hid (Below wr.heap.size wr wr.drew) := (Below.refl _ _).drew
              generalize wr.drew = w21 at B21 ⊢
              simp only [List.size_toArray, List.length_cons, List.length_nil]
              refine takeV (i := 0) (d := 72) (v := .slice (some ⟨bU, oU, none⟩) UP.length c_5) rfl (by kernel_rfl) (by kernel_rfl) (by kernel_rfl) (fun _ _ _ h => h) rfl (fun _ _ => exMove (v := .slice (some ⟨bU, oU, none⟩) UP.length c_5) rfl) B21.out ?_
              simp only [Act.put, List.setIfInBounds_toArray, List.set_cons_zero, List.set_cons_succ]
              refine takeV (i := 1) (d := 73) (v := .int .i64 ((k : Nat) : Int)) rfl (by kernel_rfl) (by kernel_rfl) (by kernel_rfl) (fun _ _ _ h => h) rfl (fun _ _ => exMove (v := .int .i64 ((k : Nat) : Int)) rfl) B21.out ?_
              simp only [Act.put, List.setIfInBounds_toArray, List.set_cons_zero, List.set_cons_succ]
              refine takeV (i := 2) (d := 74) (v := .pointer (some ⟨bU, oU + k * 2, none⟩)) rfl (by kernel_rfl) (by kernel_rfl) (by kernel_rfl) (fun _ _ _ h => h) rfl (fun w' _ => exIndex rfl rfl (HIX.out w')) B21.out ?_
              simp only [Act.put, List.setIfInBounds_toArray, List.set_cons_zero, List.set_cons_succ]
              refine takeV (i := 3) (d := 75) (v := .agg (encP x).toArray) rfl (by kernel_rfl) (by kernel_rfl) (by kernel_rfl) (fun _ _ _ h => h) rfl (fun w' h => exMid rfl (RX.out w' h) underPid rfl infoPid) B21.out ?_
              simp only [Act.put, List.setIfInBounds_toArray, List.set_cons_zero, List.set_cons_succ]
              refine takeV (i := 4) (d := 76) (v := .agg (encP d).toArray) rfl (by kernel_rfl) (by kernel_rfl) (by kernel_rfl) (fun _ _ _ h => h) rfl (fun w' h => exMid rfl (RP.out w' h) underPid rfl infoPid) B21.out ?_
              simp only [Act.put, List.setIfInBounds_toArray, List.set_cons_zero, List.set_cons_succ]
              refine takeV (i := 5) (d := 77) (v := .bool false) rfl (by kernel_rfl) (by kernel_rfl) (by kernel_rfl) (fun _ _ _ h => h) rfl (fun w' _ => exBin rfl rfl (eqgP _ _ _ _ _) (eqlPn NX.out w')) B21.out ?_
              simp only [Act.put, List.setIfInBounds_toArray, List.set_cons_zero, List.set_cons_succ]
              refine takeV (i := 6) (d := 78) (v := .bool false) rfl (by kernel_rfl) (by kernel_rfl) (by kernel_rfl) (fun _ _ _ h => h) rfl (fun _ _ => exMove (v := .bool false) rfl) B21.out ?_
              simp only [Act.put, List.setIfInBounds_toArray, List.set_cons_zero, List.set_cons_succ]
              refine takeV (i := 7) (d := 79) (v := .slice A_12 DN.length c_13) rfl (by kernel_rfl) (by kernel_rfl) (by kernel_rfl) (fun _ _ _ h => h) rfl (fun _ _ => exMove (v := .slice A_12 DN.length c_13) rfl) B21.out ?_
              simp only [Act.put, List.setIfInBounds_toArray, List.set_cons_zero, List.set_cons_succ]
              refine takeV (i := 8) (d := 80) (v := .slice (some ⟨bU, oU, none⟩) UP.length c_5) rfl (by kernel_rfl) (by kernel_rfl) (by kernel_rfl) (fun _ _ _ h => h) rfl (fun _ _ => exMove (v := .slice (some ⟨bU, oU, none⟩) UP.length c_5) rfl) B21.out ?_
              simp only [Act.put, List.setIfInBounds_toArray, List.set_cons_zero, List.set_cons_succ]
              refine takeV (i := 9) (d := 81) (v := .int .i64 ((k : Nat) : Int)) rfl (by kernel_rfl) (by kernel_rfl) (by kernel_rfl) (fun _ _ _ h => h) rfl (fun _ _ => exMove (v := .int .i64 ((k : Nat) : Int)) rfl) B21.out ?_
              simp only [Act.put, List.setIfInBounds_toArray, List.set_cons_zero, List.set_cons_succ]
              refine takeV (i := 10) (d := 82) (v := .pointer (some ⟨bU, oU + k * 2, none⟩)) rfl (by kernel_rfl) (by kernel_rfl) (by kernel_rfl) (fun _ _ _ h => h) rfl (fun w' _ => exIndex rfl rfl (HIX.out w')) B21.out ?_
              simp only [Act.put, List.setIfInBounds_toArray, List.set_cons_zero, List.set_cons_succ]
              refine takeV (i := 11) (d := 83) (v := .agg (encP x).toArray) rfl (by kernel_rfl) (by kernel_rfl) (by kernel_rfl) (fun _ _ _ h => h) rfl (fun w' h => exMid rfl (RX.out w' h) underPid rfl infoPid) B21.out ?_
              simp only [Act.put, List.setIfInBounds_toArray, List.set_cons_zero, List.set_cons_succ]
              refine wpAnyH_all (rs := [12]) (by kernel_rfl) (by simp) ?_
              intro i hi
              simp only [List.mem_cons, List.not_mem_nil, or_false] at hi
              subst hi
              refine wpOp_of rfl rfl (wp_called (args := #[.slice A_12 DN.length c_13, .agg (encP x).toArray]) hcI (by simp only [List.map_toArray, List.map_cons, List.map_nil]; rfl) (HIN.out w21 B21.out) ?_)
              rintro e w_201 ⟨rfl, h_202⟩
              refine ⟨_, rfl, ext_trans B21.out h_202, ?_⟩
              simp only [Act.put, List.setIfInBounds_toArray, List.set_cons_zero, List.set_cons_succ]
              have B_203 := Lib.hid (ext_trans B21.out h_202)
              clear B21
              clear h_202
              refine takeV (i := 13) (d := 85) (v := .bool false) rfl (by kernel_rfl) (by kernel_rfl) (by kernel_rfl) (fun _ _ _ h => h) rfl (fun _ _ => exPickF (v := .bool false) rfl rfl) B_203.out ?_
              simp only [Act.put, List.setIfInBounds_toArray, List.set_cons_zero, List.set_cons_succ]
              refine takeV (i := 14) (d := 86) (v := .bool false) rfl (by kernel_rfl) (by kernel_rfl) (by kernel_rfl) (fun _ _ _ h => h) rfl (fun _ _ => exMove (v := .bool false) rfl) B_203.out ?_
              simp only [Act.put, List.setIfInBounds_toArray, List.set_cons_zero, List.set_cons_succ]
              refine takeV (i := 15) (d := 87) (v := .pointer (some ⟨gh, 0, none⟩)) rfl (by kernel_rfl) (by kernel_rfl) (by kernel_rfl) (fun _ _ _ h => h) rfl (fun _ _ => exMove (v := .pointer (some ⟨gh, 0, none⟩)) rfl) B_203.out ?_
              simp only [Act.put, List.setIfInBounds_toArray, List.set_cons_zero, List.set_cons_succ]
              refine takeV (i := 16) (d := 88) (v := .slice (some ⟨bU, oU, none⟩) UP.length c_5) rfl (by kernel_rfl) (by kernel_rfl) (by kernel_rfl) (fun _ _ _ h => h) rfl (fun _ _ => exMove (v := .slice (some ⟨bU, oU, none⟩) UP.length c_5) rfl) B_203.out ?_
              simp only [Act.put, List.setIfInBounds_toArray, List.set_cons_zero, List.set_cons_succ]
              refine takeV (i := 17) (d := 89) (v := .int .i64 ((k : Nat) : Int)) rfl (by kernel_rfl) (by kernel_rfl) (by kernel_rfl) (fun _ _ _ h => h) rfl (fun _ _ => exMove (v := .int .i64 ((k : Nat) : Int)) rfl) B_203.out ?_
              simp only [Act.put, List.setIfInBounds_toArray, List.set_cons_zero, List.set_cons_succ]
              refine takeV (i := 18) (d := 90) (v := .pointer (some ⟨bU, oU + k * 2, none⟩)) rfl (by kernel_rfl) (by kernel_rfl) (by kernel_rfl) (fun _ _ _ h => h) rfl (fun w' _ => exIndex rfl rfl (HIX.out w')) B_203.out ?_
              simp only [Act.put, List.setIfInBounds_toArray, List.set_cons_zero, List.set_cons_succ]
              refine takeV (i := 19) (d := 91) (v := .agg (encP x).toArray) rfl (by kernel_rfl) (by kernel_rfl) (by kernel_rfl) (fun _ _ _ h => h) rfl (fun w' h => exMid rfl (RX.out w' h) underPid rfl infoPid) B_203.out ?_
              simp only [Act.put, List.setIfInBounds_toArray, List.set_cons_zero, List.set_cons_succ]
              refine takeV (i := 21) (d := 93) (v := .agg (encP d).toArray) rfl (by kernel_rfl) (by kernel_rfl) (by kernel_rfl) (fun _ _ _ h => h) rfl (fun w' h => exMid rfl (RP.out w' h) underPid rfl infoPid) B_203.out ?_
              simp only [Act.put, List.setIfInBounds_toArray, List.set_cons_zero, List.set_cons_succ]
              refine wpAnyH_all (rs := [20]) (by kernel_rfl) (by simp) ?_
              intro i hi
              simp only [List.mem_cons, List.not_mem_nil, or_false] at hi
              subst hi
              refine wpOp_of rfl rfl (wp_called (args := #[.pointer (some ⟨gh, 0, none⟩), .agg (encP x).toArray]) hcB (by simp only [List.map_toArray, List.map_cons, List.map_nil]; rfl) (HBA.out w_201 B_203.out) ?_)
              rintro e w_204 ⟨_, rfl, o_206, h_205⟩
              obtain ⟨A_207, c_208, rfl, _, p_209⟩ := PidsAt.of_own o_206 rfl
              have P_210 := Lib.hid p_209
              refine ⟨_, rfl, ext_trans B_203.out h_205, ?_⟩
              simp only [Act.put, List.setIfInBounds_toArray, List.set_cons_zero, List.set_cons_succ]
              have B_211 := Lib.hid (ext_trans B_203.out h_205)
              clear B_203
              clear o_206 h_205 p_209
              refine wpAnyH_all (rs := [22]) (by kernel_rfl) (by simp) ?_
              intro i hi
              simp only [List.mem_cons, List.not_mem_nil, or_false] at hi
              subst hi
              refine wpOp_of rfl rfl (wp_called (args := #[.slice A_207 (someD (namesH L) fun i => relH L a i).length c_208, .agg (encP d).toArray]) hcI (by simp only [List.map_toArray, List.map_cons, List.map_nil]; rfl) ((show Calls Tryz.prog 34 #[.slice A_207 (someD (namesH L) fun i => relH L a i).length c_208, .agg (encP d).toArray] w_204 (RetB w_204 (.bool true)) from by have h0 := in48_any _ w_204 _ _ c_208 (SL.out _) P_210.out d; rw [HI2.out] at h0; exact h0)) ?_)
              rintro e w_212 ⟨rfl, h_213⟩
              refine ⟨_, rfl, ext_trans B_211.out h_213, ?_⟩
              simp only [Act.put, List.setIfInBounds_toArray, List.set_cons_zero, List.set_cons_succ]
              have B_214 := Lib.hid (ext_trans B_211.out h_213)
              have F_215 := Lib.hid (P_210.out.ext h_213)
              clear B_211 P_210
              clear h_213
              refine takeV (i := 23) (d := 95) (v := .bool false) rfl (by kernel_rfl) (by kernel_rfl) (by kernel_rfl) (fun _ _ _ h => h) rfl (fun _ _ => exNot (b := true) rfl) B_214.out ?_
              simp only [Act.put, List.setIfInBounds_toArray, List.set_cons_zero, List.set_cons_succ]
              refine takeV (i := 24) (d := 96) (v := .bool false) rfl (by kernel_rfl) (by kernel_rfl) (by kernel_rfl) (fun _ _ _ h => h) rfl (fun _ _ => exPickF (v := .bool false) rfl rfl) B_214.out ?_
              simp only [Act.put, List.setIfInBounds_toArray, List.set_cons_zero, List.set_cons_succ]
              refine wpAnyH_done (by kernel_rfl) ?_ _
              clear F_215
              have BV := Lib.hid (ext_trans B.out B_214.out)
              have RX : Hid (∀ w', Below w_212.heap.size w_212 w' → w'.rangeAt bU (oU + k * 2) (encP x)) := fun w' hb => RX.out w' (ext_trans B_214.out hb)
              clear B_214 NX HIN HBA HI2 RP
              have BR2 := Lib.hid (Below.refl w_212.heap.size w_212)
              go_wp2_with fail
              go_loopw [13] (fun v wi => ∃ j : Nat, j ≤ DN.length ∧ v = .int .i64 j ∧ Hid (Below w_212.heap.size w_212 wi)) (fun v _ => DN.length - (intOf v).toNat)
              case atStart => exact ⟨0, by omega, rfl, BR2.out⟩
              case round =>
                clear BR2
                obtain ⟨j, hj, rfl, BJ⟩ := hrel
                have hj0 : (0 : Int) ≤ (j : Int) := by omega
                by_cases hjl : j < DN.length
                · have hjk : (j : Int) < (DN.length : Int) := by omega
                  obtain ⟨bN, oN, y, rfl, hbN, hy, ry⟩ := ((P_15.out.ext BV.out).ext BJ.out).at_ hjl
                  obtain ⟨b, hb, hbr⟩ := DNm.out y (List.mem_of_getElem? hy)
                  have RY : Hid (∀ w', Below wr.heap.size wr w' → w'.rangeAt bN (oN + j * 2) (encP y)) := fun w' hb => rangeAt_below ry hb hbN
                  have RX2 : Hid (∀ w', Below wr.heap.size wr w' → w'.rangeAt bU (oU + k * 2) (encP x)) := fun w' hb => RX.out w' (ext_trans BJ.out hb)
                  have HAA : Hid (∀ w', Below wr.heap.size wr w' → Calls Tryz.prog 32 #[.pointer (some ⟨gh, 0, none⟩), .agg (encP y).toArray] w' (OwnedRet w' 33 2 (someD (namesH L) fun i => relH L i b).length ((someD (namesH L) fun i => relH L i b).flatMap encP))) := fun w' hb2 => HAb.out w' (ext_trans BV.out (ext_trans BJ.out hb2)) y b hb
                  have HI3 : Hid (decide (x ∈ someD (namesH L) fun i => relH L i b) = true) := decide_eq_true ((INm.out _ x a AX.out).2 (RTR.out _ _ _ AR.out hbr))
                  have HIY : Hid (∀ u : World, (Instr.indexAt 34 (.slice (some ⟨bN, oN, none⟩) DN.length c_13) (.int .i64 ((j : Nat) : Int))).run Tryz.prog u = .ok (.pointer (some ⟨bN, oN + j * 2, none⟩)) u) := fun u => indexNames bN oN DN.length c_13 j hjl u
                  clear hy ry hb hbr
                  go_upto_region 22 with fail
                  try go_frame
                  refine wp_region_held (S := fun w' => Below wr.heap.size wr w') mixedS ?_
                  change wpAnyH _ _ _ _ _ _ _ _ wr.drew
                  have B31 : Hid (Below wr.heap.size wr wr.drew) := (Below.refl _ _).drew
                  generalize wr.drew = w31 at B31 ⊢
                  simp only [List.size_toArray, List.length_cons, List.length_nil]
                  refine takeV (i := 0) (d := 103) (v := .pointer (some ⟨gh, 0, none⟩)) rfl (by kernel_rfl) (by kernel_rfl) (by kernel_rfl) (fun _ _ _ h => h) rfl (fun _ _ => exMove (v := .pointer (some ⟨gh, 0, none⟩)) rfl) B31.out ?_
                  simp only [Act.put, List.setIfInBounds_toArray, List.set_cons_zero, List.set_cons_succ]
                  refine takeV (i := 1) (d := 104) (v := .slice (some ⟨bN, oN, none⟩) DN.length c_13) rfl (by kernel_rfl) (by kernel_rfl) (by kernel_rfl) (fun _ _ _ h => h) rfl (fun _ _ => exMove (v := .slice (some ⟨bN, oN, none⟩) DN.length c_13) rfl) B31.out ?_
                  simp only [Act.put, List.setIfInBounds_toArray, List.set_cons_zero, List.set_cons_succ]
                  refine takeV (i := 2) (d := 105) (v := .int .i64 ((j : Nat) : Int)) rfl (by kernel_rfl) (by kernel_rfl) (by kernel_rfl) (fun _ _ _ h => h) rfl (fun _ _ => exMove (v := .int .i64 ((j : Nat) : Int)) rfl) B31.out ?_
                  simp only [Act.put, List.setIfInBounds_toArray, List.set_cons_zero, List.set_cons_succ]
                  refine takeV (i := 3) (d := 106) (v := .pointer (some ⟨bN, oN + j * 2, none⟩)) rfl (by kernel_rfl) (by kernel_rfl) (by kernel_rfl) (fun _ _ _ h => h) rfl (fun w' _ => exIndex rfl rfl (HIY.out w')) B31.out ?_
                  simp only [Act.put, List.setIfInBounds_toArray, List.set_cons_zero, List.set_cons_succ]
                  refine takeV (i := 4) (d := 107) (v := .agg (encP y).toArray) rfl (by kernel_rfl) (by kernel_rfl) (by kernel_rfl) (fun _ _ _ h => h) rfl (fun w' h => exMid rfl (RY.out w' h) underPid rfl infoPid) B31.out ?_
                  simp only [Act.put, List.setIfInBounds_toArray, List.set_cons_zero, List.set_cons_succ]
                  refine takeV (i := 6) (d := 109) (v := .slice (some ⟨bU, oU, none⟩) UP.length c_5) rfl (by kernel_rfl) (by kernel_rfl) (by kernel_rfl) (fun _ _ _ h => h) rfl (fun _ _ => exMove (v := .slice (some ⟨bU, oU, none⟩) UP.length c_5) rfl) B31.out ?_
                  simp only [Act.put, List.setIfInBounds_toArray, List.set_cons_zero, List.set_cons_succ]
                  refine takeV (i := 7) (d := 110) (v := .int .i64 ((k : Nat) : Int)) rfl (by kernel_rfl) (by kernel_rfl) (by kernel_rfl) (fun _ _ _ h => h) rfl (fun _ _ => exMove (v := .int .i64 ((k : Nat) : Int)) rfl) B31.out ?_
                  simp only [Act.put, List.setIfInBounds_toArray, List.set_cons_zero, List.set_cons_succ]
                  refine takeV (i := 8) (d := 111) (v := .pointer (some ⟨bU, oU + k * 2, none⟩)) rfl (by kernel_rfl) (by kernel_rfl) (by kernel_rfl) (fun _ _ _ h => h) rfl (fun w' _ => exIndex rfl rfl (HIX.out w')) B31.out ?_
                  simp only [Act.put, List.setIfInBounds_toArray, List.set_cons_zero, List.set_cons_succ]
                  refine takeV (i := 9) (d := 112) (v := .agg (encP x).toArray) rfl (by kernel_rfl) (by kernel_rfl) (by kernel_rfl) (fun _ _ _ h => h) rfl (fun w' h => exMid rfl (RX2.out w' h) underPid rfl infoPid) B31.out ?_
                  simp only [Act.put, List.setIfInBounds_toArray, List.set_cons_zero, List.set_cons_succ]
                  refine wpAnyH_all (rs := [5]) (by kernel_rfl) (by simp) ?_
                  intro i hi
                  simp only [List.mem_cons, List.not_mem_nil, or_false] at hi
                  subst hi
                  refine wpOp_of rfl rfl (wp_called (args := #[.pointer (some ⟨gh, 0, none⟩), .agg (encP y).toArray]) hcA (by simp only [List.map_toArray, List.map_cons, List.map_nil]; rfl) (HAA.out w31 B31.out) ?_)
                  rintro e w_301 ⟨_, rfl, o_303, h_302⟩
                  obtain ⟨A_304, c_305, rfl, _, p_306⟩ := PidsAt.of_own o_303 rfl
                  have P_307 := Lib.hid p_306
                  refine ⟨_, rfl, ext_trans B31.out h_302, ?_⟩
                  simp only [Act.put, List.setIfInBounds_toArray, List.set_cons_zero, List.set_cons_succ]
                  have B_308 := Lib.hid (ext_trans B31.out h_302)
                  clear B31
                  clear o_303 h_302 p_306
                  refine wpAnyH_all (rs := [10]) (by kernel_rfl) (by simp) ?_
                  intro i hi
                  simp only [List.mem_cons, List.not_mem_nil, or_false] at hi
                  subst hi
                  refine wpOp_of rfl rfl (wp_called (args := #[.slice A_304 (someD (namesH L) fun i => relH L i b).length c_305, .agg (encP x).toArray]) hcI (by simp only [List.map_toArray, List.map_cons, List.map_nil]; rfl) ((show Calls Tryz.prog 34 #[.slice A_304 (someD (namesH L) fun i => relH L i b).length c_305, .agg (encP x).toArray] w_301 (RetB w_301 (.bool true)) from by have h0 := in48_any _ w_301 _ _ c_305 (SL.out _) P_307.out x; rw [HI3.out] at h0; exact h0)) ?_)
                  rintro e w_309 ⟨rfl, h_310⟩
                  refine ⟨_, rfl, ext_trans B_308.out h_310, ?_⟩
                  simp only [Act.put, List.setIfInBounds_toArray, List.set_cons_zero, List.set_cons_succ]
                  have B_311 := Lib.hid (ext_trans B_308.out h_310)
                  have F_312 := Lib.hid (P_307.out.ext h_310)
                  clear B_308 P_307
                  clear h_310
                  refine takeV (i := 11) (d := 114) (v := .bool false) rfl (by kernel_rfl) (by kernel_rfl) (by kernel_rfl) (fun _ _ _ h => h) rfl (fun _ _ => exNot (b := true) rfl) B_311.out ?_
                  simp only [Act.put, List.setIfInBounds_toArray, List.set_cons_zero, List.set_cons_succ]
                  refine wpAnyH_done (by kernel_rfl) ?_ _
                  have B9 := Lib.hid (ext_trans BJ.out B_311.out)
                  clear F_312
                  go_wp2_with fail
                  go_roundw
                  case rel => exact ⟨j + 1, by omega, by go_num, B9.out⟩
                  case measure => simp [intOf]; omega
                · have hjk : ¬ (j : Int) < (DN.length : Int) := by omega
                  have B9 := Lib.hid (ext_trans BV.out BJ.out)
                  go_wp2_with fail
                  go_roundw
                  case rel => exact ⟨k + 1, by omega, by go_num, B9.out⟩
                  case measure => simp [intOf]; omega
            · have hlk : ¬ (k : Int) < (UP.length : Int) := by omega
              have HA := Lib.hid (HA.out.ext B.out)
              have HX := Lib.hid (HX.out.ext B.out)
              have BX := Lib.hid (BX.out.trans (B.out.mono BX.out.size))
              have KP := Lib.hid (KP.out.ext B.out)
              have hFx : Hid (∀ q, F q → q < wr.heap.size) := fun q e => Nat.lt_of_lt_of_le (hFx.out q e) B.out.size
              clear F_17 P_15 B HAb HBl
              go_wp2_with (refine wpList_load_row rfl 33 _ (by rfl) gp (by rfl) _ _ _ _ KP.out underPid rfl infoPid ?_)
              refine (without48_any HA.out d).mono ?_
              rintro e w24 ⟨_, rfl, oo, bb⟩
              rw [PM.out] at oo
              obtain ⟨AL, cL, rfl, _, pp⟩ := PidsAt.of_own oo rfl
              have PL := Lib.hid pp
              have HA := Lib.hid (HA.out.ext bb)
              have HX := Lib.hid (HX.out.ext bb)
              have BX := Lib.hid (BX.out.trans (bb.mono BX.out.size))
              have hFx : Hid (∀ q, F q → q < w24.heap.size) := fun q e => Nat.lt_of_lt_of_le (hFx.out q e) bb.size
              clear oo pp bb KP
              go_wp2_with fail
              refine (new31_any _).mono ?_
              rintro e w25 ⟨gy, rfl, hY, b25⟩
              have HY := Lib.hid hY
              have HX25 := Lib.hid b25
              have HA := Lib.hid (HA.out.ext b25)
              clear hY b25
              go_wp2_with fail
              refine (new31_any _).mono ?_
              rintro e w26 ⟨gz, rfl, hZ, b26⟩
              have TW : Hid (TwoAt w24.heap.size w26.heap.size w26.heap.size w26 gy gz [] []) := ⟨_, _, HY.out.ext b26, hZ, fun q h1 h2 => by have := h1.2; have := h2.1; omega, fun q h1 => by
                have s1 := HX25.out.size
                have s2 := b26.size
                rcases h1 with ⟨h1, h2⟩ | ⟨h1, h2⟩ <;> exact .inl ⟨by omega, by omega⟩⟩
              have B26 := Lib.hid (ext_trans HX25.out b26)
              have HA := Lib.hid (HA.out.ext b26)
              clear hZ b26 HY HX25
              go_wp2_with fail
              refine (horder48_any HA.out).mono ?_
              rintro e w27 ⟨_, rfl, oo, b27⟩
              have h27 := b27.size
              obtain ⟨AO, cO, rfl, _, pp⟩ := PidsAt.of_own oo rfl
              have PO := Lib.hid pp
              have IO : Hid (InB (fun q => w26.heap.size ≤ q ∧ q < w27.heap.size) AO (namesAt (namesH L) (ordR (relH L) (namesH L).length)).length) := own_inB oo
              have TW : Hid (TwoAt w24.heap.size w26.heap.size w27.heap.size w27 gy gz [] []) := by
                obtain ⟨Fy, Fz, t1, t2, t3, t4⟩ := TW.out.ex
                refine ⟨Fy, Fz, t1.ext b27, t2.ext b27, t3, fun q hq => ?_⟩
                rcases t4 q hq with h | h
                · exact .inl h
                · rcases hq with hq | hq
                  · exact absurd (t1.lt q hq) (by omega)
                  · exact absurd (t2.lt q hq) (by omega)
              have hb24 : Hid (w.heap.size ≤ w24.heap.size) := BX.out.size
              have B27 := Lib.hid (ext_trans B26.out b27)
              have h26 := Lib.hid B26.out.size
              have BX := Lib.hid (BX.out.trans (B27.out.mono BX.out.size))
              have PL7 := Lib.hid (PL.out.ext B27.out)
              have IL : Hid (InB (fun q => q < w24.heap.size) AL (someD (namesH L) fun i => withoutR (relH L) (m : Int) i).length) := fun hn b o e => by
                obtain ⟨b', o', e', hb', _⟩ := PL.out.sl.2 hn
                rw [e] at e'; injection e' with e'; injection e' with e1 _; show b < _; rw [e1]; exact hb'
              have HX7 := Lib.hid (HX.out.ext B27.out)
              clear oo pp b27 HA PL HX B26
              have OL := Lib.hid (ord_len L)
              have OA := Lib.hid (ord_all L)
              have OAT : Hid (∀ k i, (ordR (relH L) (namesH L).length)[k]? = some i → (namesAt (namesH L) (ordR (relH L) (namesH L).length))[k]? = (namesH L)[i]?) := fun k i h => namesAt_at (fun j hj => (ord_all L j).1 hj) h
              have OLN : (namesAt (namesH L) (ordR (relH L) (namesH L).length)).length = N := by rw [namesAt_lenF fun j hj => (ord_all L j).1 hj, OL.out, hN.out]
              have OAH : Hid (∀ k i, (ordR (relH L) (namesH L).length)[k]? = some i → ∀ j, relH L j i = true → j ∈ (ordR (relH L) (namesH L).length).take k) := fun k i h => ord_ahead IOK.out h
              have OND : Hid ((ordR (relH L) (namesH L).length).Nodup) := (ordR_told (relH_trans L)).1.nodup
              have LFT := Lib.hid (left_len L fun i => withoutR (relH L) (m : Int) i)
              have AV : Hid (IdxOk (patI L (ordR (relH L) (namesH L).length)) → vecL (patI L (ordR (relH L) (namesH L).length)) = vecL L) := all_vec IOK.out
              have PLN : Hid ((someD (namesH L) fun i => withoutR (relH L) (m : Int) i).length + DN.length + 1 = N) := by
                have h0 := parts_len IOK.out (p := m) (by have := hN.out; omega)
                simp only [hasR_nat] at h0
                rw [hDN.out] at h0
                rw [Hid, h0, hN.out]
              have hLb : (someD (namesH L) fun i => withoutR (relH L) (m : Int) i).length ≤ 12 := by have := PLN.out; omega
              have LL := Lib.hid (SL.out fun i => withoutR (relH L) (m : Int) i)
              rw [OLN] at PO IO ⊢
              generalize ordR (relH L) (namesH L).length = O at *
              generalize hLF : (someD (namesH L) fun i => withoutR (relH L) (m : Int) i) = LF at *
              replace hLF := Lib.hid hLF
              have hON : O.length = N := by rw [OL.out, hN.out]
              go_wp2_with fail
              go_loopw [18] (fun v wr => ∃ k : Nat, k ≤ N ∧ v = .int .i64 k ∧ Hid (TwoAt w24.heap.size w26.heap.size w27.heap.size wr gy gz (patI L (O.take k)) (patI L ((O.take k).filter fun i => withoutR (relH L) (m : Int) i))) ∧ Hid (Stay (fun q => q < w24.heap.size ∨ w26.heap.size ≤ q ∧ q < w27.heap.size) w27 wr) ∧ Hid (Below w24.heap.size w27 wr)) (fun v _ => N - (intOf v).toNat)
              case atStart => exact ⟨0, by omega, rfl, TW.out, Stay.refl _ _, Below.refl _ _⟩
              case round =>
                clear TW
                obtain ⟨k, hk, rfl, TW, ST, B⟩ := hrel
                have hk0 : (0 : Int) ≤ (k : Int) := by omega
                have HXr := Lib.hid (HX7.out.stay (ST.out.mono fun q e => .inl (hFx.out q e)))
                have h24 := Lib.hid B.out.size
                obtain ⟨Fy, Fz, hY, hZ, hYZ, hFF⟩ := TW.out.ex
                have HY := Lib.hid hY
                have HZ := Lib.hid hZ
                have HYZ := Lib.hid hYZ
                have HFF := Lib.hid hFF
                clear hY hZ hYZ hFF TW
                by_cases hlt : k < N
                · have hlk : (k : Int) < (N : Int) := by omega
                  obtain ⟨i, hi⟩ : ∃ i, O[k]? = some i := ⟨_, List.getElem?_eq_getElem (by omega)⟩
                  obtain ⟨p, hp1, hp2⟩ := patI_at (L := L) ((OA.out i).1 (List.mem_of_getElem? hi))
                  obtain ⟨bO, oO, x, rfl, hbO, hx, rx⟩ := (PO.out.stay IO.out (ST.out.mono fun q e => .inr e)).at_ hlt
                  have hxp : x = p.1 := by
                    rw [OAT.out k i hi, hp1] at hx
                    exact (Option.some.inj hx).symm
                  subst hxp
                  have RO := Lib.hid rx
                  have hlO := Lib.hid hbO
                  have hgs : Hid ((findP L p.1).isSome = true) := by rw [Hid, hp2]; rfl
                  have hgv : Hid (getV L p.1 = p) := getV_some hp2
                  have hpq := Lib.hid (HD2.out p (findP_some hp2).1)
                  have TK : Hid (O.take (k + 1) = O.take k ++ [i]) := by rw [Hid, List.take_add_one, hi]; rfl
                  have SN : Hid (patI L (O.take (k + 1)) = patI L (O.take k) ++ [p]) := by rw [Hid, TK.out]; exact patI_snoc hp1 hp2
                  have E0 : Hid (idxE (patI L (O.take k)) p = 0) := put_next IOK.out HY.out.ok hp1 hp2 (nodup_take OND.out hi) (OAH.out k i hi)
                  have IL0 : Hid (idxL (patI L (O.take k)) p = patI L (O.take (k + 1))) := by rw [Hid, SN.out]; exact if_pos E0.out
                  have hYl : Hid ((patI L (O.take k)).length ≤ 10000) := by
                    have h1 := List.length_filterMap_le (fun i => (namesH L)[i]?.bind (findP L)) (O.take k)
                    rw [List.length_take] at h1
                    unfold patI; rw [Hid]; omega
                  have hZl : Hid ((patI L ((O.take k).filter fun i => withoutR (relH L) (m : Int) i)).length ≤ 10000) := by
                    have h1 := List.length_filterMap_le (fun i => (namesH L)[i]?.bind (findP L)) ((O.take k).filter fun i => withoutR (relH L) (m : Int) i)
                    have h2 := List.length_filter_le (fun i => withoutR (relH L) (m : Int) i) (O.take k)
                    rw [List.length_take] at h2
                    unfold patI; rw [Hid]; omega
                  have ZF : Hid ((O.take (k + 1)).filter (fun i => withoutR (relH L) (m : Int) i) = if withoutR (relH L) (m : Int) i = true then (O.take k).filter (fun i => withoutR (relH L) (m : Int) i) ++ [i] else (O.take k).filter (fun i => withoutR (relH L) (m : Int) i)) := by
                    rw [Hid, TK.out, List.filter_append, List.filter_cons, List.filter_nil]
                    split <;> simp
                  have ZE : Hid (withoutR (relH L) (m : Int) i = true → idxE (patI L ((O.take k).filter fun i => withoutR (relH L) (m : Int) i)) p = 0) := fun hq => put_next IOK.out HZ.out.ok hp1 hp2 (fun hc => nodup_take OND.out hi (List.mem_filter.1 hc).1) fun j hj => List.mem_filter.2 ⟨OAH.out k i hi j hj, without_ahead hj hq⟩
                  have ZS : Hid (patI L ((O.take k).filter (fun i => withoutR (relH L) (m : Int) i) ++ [i]) = patI L ((O.take k).filter fun i => withoutR (relH L) (m : Int) i) ++ [p]) := patI_snoc hp1 hp2
                  have IN : Hid (decide (p.1 ∈ LF) = withoutR (relH L) (m : Int) i) := by
                    have := INm.out (fun i => withoutR (relH L) (m : Int) i) p.1 i hp1
                    rw [Hid, ← hLF.out, Bool.eq_iff_iff, decide_eq_true_eq]
                    exact this
                  have PLr := Lib.hid (PL7.out.stay IL.out (ST.out.mono fun q e => .inl e))
                  have HG := Lib.hid (get31_any HXr.out p.1)
                  rw [hgv.out, hgs.out] at HG
                  have hbI := Lib.hid (IO.out (by omega) bO oO rfl)
                  have hlw : Hid (∀ q, Fy q ∨ Fz q → q < wr.heap.size) := fun q e => e.elim (HY.out.lt q) (HZ.out.lt q)
                  clear hi hp1 hp2 hx rx hbO
                  have hON2 : (namesAt (namesH L) O).length = N := OLN
                  go_wp2_with (refine wpList_load_mid rfl 33 _ (by rfl) bO (oO + k * 2) (by rfl) _ _ RO.out underPid rfl infoPid ?_)
                  refine HG.out.mono ?_
                  rintro e w30 ⟨cs, rfl, pin, b30⟩
                  have pin2 := pin
                  obtain ⟨⟨A3, c3, A4, c4, rfl, _, _, _, _⟩, _, _⟩ := pin2
                  have PIN := Lib.hid pin
                  have HY := Lib.hid (HY.out.ext b30)
                  have HZ := Lib.hid (HZ.out.ext b30)
                  have PLr := Lib.hid (PLr.out.ext b30)
                  have RO := Lib.hid (rangeAt_below RO.out b30 hlO.out)
                  have ST := Lib.hid (stay_of ST.out (Stay.of_below b30))
                  have B := Lib.hid (B.out.trans (b30.mono (by have := h24.out; have := h26.out; omega)))
                  have hlO := Lib.hid (Nat.lt_of_lt_of_le hlO.out b30.size)
                  have hwg : Hid (wr.heap.size ≤ w30.heap.size) := b30.size
                  clear pin b30 HG HXr
                  have KZ : Hid (Blk (w30.alloc (.cells #[.int .u8 0, .int .u16 0, .slice none 0 0, .slice none 0 0] 37)) w30.heap.size 37 #[.int .u8 0, .int .u16 0, .slice none 0 0, .slice none 0 0]) := Blk.new _ _ _
                  have KQ : Hid (Blk ((w30.alloc (.cells #[.int .u8 0, .int .u16 0, .slice none 0 0, .slice none 0 0] 37)).setRow w30.heap.size (patC p.1 A3 p.2.1.length c3 A4 p.2.2.length c4).toArray) w30.heap.size 37 (patC p.1 A3 p.2.1.length c3 A4 p.2.2.length c4).toArray) := KZ.out.row _
                  have BN : Hid (Below w30.heap.size w30 ((w30.alloc (.cells #[.int .u8 0, .int .u16 0, .slice none 0 0, .slice none 0 0] 37)).setRow w30.heap.size (patC p.1 A3 p.2.1.length c3 A4 p.2.2.length c4).toArray)) := below_setRow (below_new w30 _) (Nat.le_refl _) _
                  go_upto_region 31 with (first
                    | (refine wpList_alloced (allocPat _) ?_)
                    | (refine wpList_store_row rfl 37 _ _ (by rfl) w30.heap.size (patC p.1 A3 p.2.1.length c3 A4 p.2.2.length c4).toArray (by rfl) (by rfl) _ _ KZ.out infoPat rfl (patC_all _ _ _ _ _ _ _) ?_))
                  generalize ((w30.alloc (.cells #[.int .u8 0, .int .u16 0, .slice none 0 0, .slice none 0 0] 37)).setRow w30.heap.size (patC p.1 A3 p.2.1.length c3 A4 p.2.2.length c4).toArray) = w31 at *
                  have HY := Lib.hid (HY.out.ext BN.out)
                  have HZ := Lib.hid (HZ.out.ext BN.out)
                  have PLr := Lib.hid (PLr.out.ext BN.out)
                  have PIN := Lib.hid (PIN.out.ext BN.out)
                  have RO := Lib.hid (rangeAt_below RO.out BN.out hlO.out)
                  have ST := Lib.hid (stay_of ST.out (Stay.of_below BN.out))
                  have B := Lib.hid (B.out.trans (BN.out.mono (by have := B.out.size; have := h26.out; omega)))
                  have hlO2 := Lib.hid (Nat.lt_of_lt_of_le hlO.out BN.out.size)
                  clear KZ BN hlO
                  generalize w30.heap.size = gq at *
                  have hlO := hlO2
                  clear hlO2
                  have HP := Lib.hid (put31_any HY.out hYl.out p _ PIN.out.at_ hpq.out)
                  have hsz := Lib.hid B.out.size
                  go_wp2_with (refine wpList_load_rowG (by kernel_rfl) 37 _ (by rfl) gq (by rfl) _ _ _ _ KQ.out underPat rfl infoPat ?_)
                  refine HP.out.mono ?_
                  rintro e w32 ⟨rfl, kp, hy'⟩
                  rw [IL0.out] at hy'
                  rw [E0.out]
                  have TY := Lib.hid (TwoAt.putY HZ.out HYZ.out HFF.out hsz.out kp hy')
                  have PLr := Lib.hid (PLr.out.stay IL.out (kp.stay fun q _ hg hf => by have := HFF.out q (.inl hf); have := h26.out; omega))
                  have KQ := Lib.hid (KQ.out.keep (kp.block gq KQ.out.lt fun hf => by have := hlw.out gq (.inl hf); have := hwg.out; omega))
                  have PIN := Lib.hid (PIN.out.stay (kp.stay fun q _ hg hf => by have := hlw.out q (.inl hf); omega))
                  have RO := Lib.hid (rangeAt_keep RO.out fun j => World.cell?_of_block (a := ⟨bO, j, none⟩) (kp.block bO hlO.out fun hf => by have := HFF.out bO (.inl hf); have := hbI.out; omega))
                  have ST := Lib.hid (stay_of ST.out (kp.stay fun q _ hg hf => by have := HFF.out q (.inl hf); have := h26.out; omega))
                  have B := Lib.hid (B.out.trans (kp.below (B := w24.heap.size) (fun q hf => by have := HFF.out q (.inl hf); have := h26.out; omega) (by have := hsz.out; have := h26.out; omega)))
                  have HIN := Lib.hid (in48_any LF w32 AL LF.length cL LL.out PLr.out p.1)
                  rw [IN.out] at HIN
                  have hsz2 := Lib.hid kp.size
                  have hlO := Lib.hid (Nat.lt_of_lt_of_le hlO.out kp.size)
                  clear kp hy' HP HY HZ
                  cases hq : withoutR (relH L) (m : Int) i
                  · rw [hq] at HIN
                    have ZN : Hid ((O.take (k + 1)).filter (fun i => withoutR (relH L) (m : Int) i) = (O.take k).filter fun i => withoutR (relH L) (m : Int) i) := by rw [Hid, ZF.out, if_neg (by rw [hq]; decide)]
                    clear ZF ZE ZS
                    go_wp2_with (refine wpList_load_midG (by kernel_rfl) 33 _ (by rfl) bO (oO + k * 2) (by rfl) _ _ RO.out underPid rfl infoPid ?_)
                    refine HIN.out.mono ?_
                    rintro e w33 ⟨rfl, b33⟩
                    have TY := Lib.hid (TY.out.ext b33)
                    have ST := Lib.hid (stay_of ST.out (Stay.of_below b33))
                    have B := Lib.hid (B.out.trans (b33.mono (by have := hsz.out; have := hsz2.out; have := h26.out; omega)))
                    clear b33 RO KQ PIN PLr HIN
                    go_wp2_with fail
                    go_roundw
                    case rel => exact ⟨k + 1, by omega, by go_num, by rw [ZN.out]; exact TY.out, ST.out, B.out⟩
                    case measure => simp [intOf]; omega
                  · rw [hq] at HIN
                    have ZN : Hid ((O.take (k + 1)).filter (fun i => withoutR (relH L) (m : Int) i) = (O.take k).filter (fun i => withoutR (relH L) (m : Int) i) ++ [i]) := by rw [Hid, ZF.out, if_pos hq]
                    have Z0 := Lib.hid (ZE.out hq)
                    have IZ0 : Hid (idxL (patI L ((O.take k).filter fun i => withoutR (relH L) (m : Int) i)) p = patI L ((O.take (k + 1)).filter fun i => withoutR (relH L) (m : Int) i)) := by rw [Hid, ZN.out, ZS.out]; exact if_pos Z0.out
                    clear ZF ZE ZS
                    go_wp2_with (refine wpList_load_midG (by kernel_rfl) 33 _ (by rfl) bO (oO + k * 2) (by rfl) _ _ RO.out underPid rfl infoPid ?_)
                    refine HIN.out.mono ?_
                    rintro e w33 ⟨rfl, b33⟩
                    have TY := Lib.hid (TY.out.ext b33)
                    have ST := Lib.hid (stay_of ST.out (Stay.of_below b33))
                    have B := Lib.hid (B.out.trans (b33.mono (by have := hsz.out; have := hsz2.out; have := h26.out; omega)))
                    have KQ := Lib.hid (KQ.out.ext b33)
                    have PIN := Lib.hid (PIN.out.ext b33)
                    have hsz3 : Hid (w27.heap.size ≤ w33.heap.size) := by have := hsz.out; have := hsz2.out; have := b33.size; rw [Hid]; omega
                    clear b33 RO PLr HIN hlw
                    obtain ⟨Gy, Gz, hY, hZ, hYZ, hFF⟩ := TY.out.ex
                    have HP := Lib.hid (put31_any hZ hZl.out p _ PIN.out.at_ hpq.out)
                    have HY := Lib.hid hY
                    have HYZ2 := Lib.hid hYZ
                    have HFF2 := Lib.hid hFF
                    clear hY hZ hYZ hFF TY
                    go_wp2_with (refine wpList_load_rowG (by kernel_rfl) 37 _ (by rfl) gq (by rfl) _ _ _ _ KQ.out underPat rfl infoPat ?_)
                    refine HP.out.mono ?_
                    rintro e w34 ⟨rfl, kp, hy'⟩
                    rw [IZ0.out] at hy'
                    rw [Z0.out]
                    have TY := Lib.hid (TwoAt.putZ HY.out HYZ2.out HFF2.out hsz3.out kp hy')
                    have ST := Lib.hid (stay_of ST.out (kp.stay fun q _ hg hf => by have := HFF2.out q (.inr hf); have := h26.out; omega))
                    have B := Lib.hid (B.out.trans (kp.below (B := w24.heap.size) (fun q hf => by have := HFF2.out q (.inr hf); have := h26.out; omega) (by have := hsz3.out; have := h26.out; omega)))
                    clear kp hy' HP HY KQ PIN
                    go_wp2_with fail
                    go_roundw
                    case rel => exact ⟨k + 1, by omega, by go_num, TY.out, ST.out, B.out⟩
                    case measure => simp [intOf]; omega
                · have hlk : ¬ (k : Int) < (N : Int) := by omega
                  have hkN : k = N := by omega
                  have hTO : Hid (O.take k = O) := List.take_of_length_le (by omega)
                  rw [hTO.out] at HY HZ
                  have BX := Lib.hid (BX.out.trans (B.out.mono (by have := hb24.out; omega)))
                  have VE : Hid (vecL (patI L O) = vecL L) := AV.out HY.out.ok
                  have HV := Lib.hid (vec31_any HY.out)
                  rw [VE.out] at HV
                  have HZL := Lib.hid (len31_any HZ.out)
                  rw [LFT.out] at HZL
                  have c1 : ((N : Int) == ((L.length : Nat) : Int)) = true := by rw [hLN]; simp
                  have c2 : (((LF.length : Nat) : Int) + ((DN.length : Nat) : Int) + 1 == (N : Int)) = true := by rw [beq_iff_eq]; have := PLN.out; omega
                  have HEQ : ∀ u : World, (binOp .eql 39 (.agg (vecA (vecL L))) (.agg (vecA (vecL L)))).run Tryz.prog u = .ok (.bool true) u := fun u => by rw [eql_vec _ _ (vecL_ok _) (vecL_ok _), decide_eq_true rfl]
                  go_wp2_with fail
                  refine (len31_any HXr.out).mono ?_
                  rintro e _ ⟨rfl, rfl⟩
                  go_wp2_with fail
                  refine HV.out.mono ?_
                  rintro e w41 ⟨rfl, b41⟩
                  have BX := Lib.hid (BX.out.trans (b41.mono BX.out.size))
                  have HXr := Lib.hid (HXr.out.ext b41)
                  have HZ := Lib.hid (HZ.out.ext b41)
                  clear b41 HV HZL
                  go_wp2_with fail
                  refine (vec31_any HXr.out).mono ?_
                  rintro e w42 ⟨rfl, b42⟩
                  have BX := Lib.hid (BX.out.trans (b42.mono BX.out.size))
                  have HZL := Lib.hid (len31_any (HZ.out.ext b42))
                  rw [LFT.out] at HZL
                  clear b42
                  go_wp2_with fail
                  refine HZL.out.mono ?_
                  rintro e _ ⟨rfl, rfl⟩
                  go_wp2_with fail
                  refine (works48 _).mono ?_
                  rintro e w43 ⟨rfl, b43⟩
                  have BX := Lib.hid (BX.out.trans (b43.mono BX.out.size))
                  clear b43
                  go_wp2
                  go_ret
                  exact ⟨rfl, BX.out⟩
end Go.Proofs.YtnhbbggpgieipaaGreat
