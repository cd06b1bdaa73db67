/- Vectors: how many of a list are unlike, by a map and by holding each against those ahead. -/
import Derived.Test.YtceapefjdiphpaaVecl
import Derived.Test.YtceapefjdiphpaaHeldm
import Derived.IntWalk
namespace Go.Proofs.Ytceapefjdiphpaa
open Go.RowKit
open Go.ChangeMaps (setBlock)

def vecC (v : List Int) : List Value := v.map (Value.int .u16)
def vecCs (vs : List (List Int)) : List Value := vs.flatMap vecC
def addU (acc : List (List Int)) (x : List Int) : List (List Int) := if x ∈ acc then acc else acc ++ [x]
def uniq (vs : List (List Int)) : List (List Int) := vs.foldl addU []
theorem uniq_snoc (vs : List (List Int)) (x : List Int) : uniq (vs ++ [x]) = addU (uniq vs) x := by simp [uniq]
theorem mem_uniq_go (y : List Int) : ∀ (vs acc : List (List Int)), y ∈ vs.foldl addU acc ↔ y ∈ acc ∨ y ∈ vs
  | [], acc => by simp
  | x :: vs, acc => by
    rw [List.foldl_cons, mem_uniq_go y vs]
    unfold addU
    split
    · rename_i h
      constructor
      · rintro (h1 | h1)
        · exact .inl h1
        · exact .inr (by simp [h1])
      · rintro (h1 | h1)
        · exact .inl h1
        · rcases List.mem_cons.1 h1 with rfl | h1
          · exact .inl h
          · exact .inr h1
    · simp [or_assoc]
theorem mem_uniq (vs : List (List Int)) (y : List Int) : y ∈ uniq vs ↔ y ∈ vs := by simp [uniq, mem_uniq_go]
theorem uniq_len_le (vs : List (List Int)) : (uniq vs).length ≤ vs.length := by
  have : ∀ (vs acc : List (List Int)), (vs.foldl addU acc).length ≤ acc.length + vs.length := by
    intro vs
    induction vs with
    | nil => intro acc; simp
    | cons x vs ih =>
      intro acc
      rw [List.foldl_cons]
      have := ih (addU acc x)
      have h2 : (addU acc x).length ≤ acc.length + 1 := by unfold addU; split <;> simp
      simp only [List.length_cons]; omega
  simpa [uniq] using this vs []
theorem vecA_inj {a b : List Int} (h : vecA a = vecA b) : a = b := by
  have h := congrArg Array.toList h
  simp only [vecA] at h
  have : ∀ (a b : List Int), a.map (Value.int .u16) = b.map (Value.int .u16) → a = b := by
    intro a
    induction a with
    | nil => intro b h; cases b <;> simp_all
    | cons x a ih => intro b h; cases b with
      | nil => simp at h
      | cons y b => simp at h; rw [h.1, ih b (by simpa using h.2)]
  exact this a b (by simpa using h)

theorem kLaw : Go.WideMaps.KeyLaw Try.prog 24 := deep_law_laid (by kernel_rfl) (m := 2) (by omega) (of_decide_eq_true (by kernel_rfl)) (by kernel_rfl) (by kernel_rfl)
theorem kMap : Try.prog.underlying 71 = some (.map 24 3) := by kernel_rfl
theorem kZero (u : World) : (zeroValue 3).run Try.prog u = .ok (.int .i64 0) u := by kernel_rfl
theorem kKey (v : List Int) (h : VecOk v) : ∃ kl, keyOf Try.prog 24 (.agg (vecA v)) = some kl := by
  have : FlatOk (List.replicate 64 (.int .u16)) (v.map (Value.int .u16)) := by
    have hl := h.len
    rw [← hl]
    clear hl
    have hw : ∀ x ∈ v, (Lit.int .u16 x).wf = true := fun x hx => by have := h.bd x hx; simp [Lit.wf, IntKind.min, IntKind.max, IntKind.signed, IntKind.bits]; omega
    clear h
    induction v with
    | nil => trivial
    | cons x v ih => exact ⟨⟨x, rfl, hw x (by simp)⟩, ih (fun z hz => hw z (by simp [hz]))⟩
  exact keyOf_flat (by kernel_rfl) (by kernel_rfl) (by kernel_rfl) (by kernel_rfl) (of_decide_eq_true (by kernel_rfl)) this

theorem vecKeep {l : List (Value × Value)} {vs : List (List Int)} (h : l.map (·.1) = (uniq vs).map (fun v => Value.agg (vecA v))) (x : List Int) {l' : List (Value × Value)} {val : Value} (hp : PutL l (.agg (vecA x)) val l') :
    l'.map (·.1) = (uniq (vs ++ [x])).map (fun v => Value.agg (vecA v)) := by
  have hm : (Value.agg (vecA x)) ∈ l.map (·.1) ↔ x ∈ uniq vs := by
    rw [h, List.mem_map]
    constructor
    · rintro ⟨y, hy, e⟩; injection e with e; rwa [← vecA_inj e]
    · exact fun hx => ⟨x, hx, rfl⟩
  rw [uniq_snoc]; unfold addU
  rcases hp.keys with ⟨h1, h2⟩ | ⟨h1, h2⟩
  · rw [if_neg (fun hx => h1 (hm.2 hx)), h2, h]; simp
  · rw [if_pos (hm.1 h1), h2, h]

theorem under24 : Try.prog.underlying 24 = some (.array 64 22) := under64
theorem make71 (w : World) : (Instr.makeMap 71 none).run Try.prog w = .ok (.map (some w.heap.size)) (w.alloc (.map #[] 0)) := by kernel_rfl

set_option maxRecDepth 100000 in
set_option maxHeartbeats 1000000 in
theorem unlike_any (vs : List (List Int)) (hv : ∀ v ∈ vs, VecOk v) (w : World) (A : Option Addr) (n c : Nat) (hn : vs.length = n) (hm : n ≤ 40) (h : Sl w w.heap.size 64 A n (vecCs vs)) :
    Calls Try.prog 17 #[.slice A n c] w (RetB w (.int .i64 (uniq vs).length)) := by
  have HL := Lib.hid hn
  have H := Lib.hid h
  have HV := Lib.hid hv
  clear h hn hv
  have hmk := make71
  go_enter Try.func17, Try.ntmps17
  go_wp2_with fail
  clear hmk
  have M0 : Hid (MapIs Try.prog 24 (w.alloc (.map #[] 0)) w.heap.size []) := MapIs.made _ _ _
  have B0 : Hid (Below w.heap.size w (w.alloc (.map #[] 0))) := (Below.refl _ _).alloc (Nat.le_refl _) _
  generalize (w.alloc (.map #[] 0)) = w0 at *
  go_loopw [9] (fun i wr => ∃ (k : Nat) (l : List (Value × Value)), k ≤ n ∧ i = .int .i64 k ∧ l.map (·.1) = (uniq (vs.take k)).map (fun v => Value.agg (vecA v)) ∧ (∀ p ∈ l, ∃ z : Int, p.2 = .int .i64 z ∧ 0 ≤ z ∧ z ≤ k) ∧ MapIs Try.prog 24 wr w.heap.size l ∧ Below w.heap.size w wr) (fun i _ => n - (intOf i).toNat)
  case atStart => exact ⟨0, [], by omega, rfl, by simp [uniq], by simp, M0.out, B0.out⟩
  case round =>
    clear M0 B0
    obtain ⟨k, l, hk, rfl, hks, hvs, hmi, hbl⟩ := hrel
    have KS := Lib.hid hks
    have VS := Lib.hid hvs
    have M := Lib.hid hmi
    have B := Lib.hid hbl
    clear hks hvs hmi hbl
    by_cases hlt : k < n
    · obtain ⟨b, o, rfl, hb, hr⟩ := H.out.rowAt (enc := vecC) (k := k) HL.out (fun v hv => by rw [vecC, List.length_map]; exact (HV.out v hv).len) (by rw [HL.out]; exact hlt)
      have hx := HV.out _ (List.getElem_mem (show k < vs.length by rw [HL.out]; exact hlt))
      have P1 : Hid (vs.take (k + 1) = vs.take k ++ [vs[k]'(by rw [HL.out]; exact hlt)]) := List.take_succ_eq_append_getElem _
      generalize vs[k]'(by rw [HL.out]; exact hlt) = x at *
      have hlk : (k : Int) < (n : Int) := by omega
      have hk0 : (0 : Int) ≤ (k : Int) := by omega
      have R : Hid (wr.rangeAt b (o + k * 64) (vecC x)) := rangeAt_below hr B.out hb
      have X := Lib.hid hx
      have HS : Hid ((Try.prog.info? 24).map (·.size) = some (vecC x).length) := by rw [Hid, vecC, List.length_map, hx.len]; exact info64
      have HS2 : Hid ((Try.prog.info? 24).map (·.size) = some (vecA x).size) := by rw [Hid, vecA_size, hx.len]; exact info64
      have HS3 : Hid ((vecA vec0).size = (vecA x).size) := by rw [Hid, vecA_size, vecA_size, hx.len]; rfl
      have K1 : Hid (Blk ((wr.alloc (.cells (vecA vec0) 24)).setRow wr.heap.size (vecA x)) wr.heap.size 24 (vecA x)) := (Blk.new _ _ _).row _
      have B1 : Hid (Below wr.heap.size wr ((wr.alloc (.cells (vecA vec0) 24)).setRow wr.heap.size (vecA x))) := below_setRow ((Below.refl _ _).alloc (Nat.le_refl _) _) (Nat.le_refl _) _
      clear hr hx
      go_wp2_with (first
        | (refine wpList_load_mid rfl 24 _ (by rfl) b (o + k * 64) (by rfl) _ _ R.out under64 rfl HS.out ?_)
        | (refine wpList_alloced (alloc64 _) ?_)
        | (refine wpList_store_row rfl 24 _ _ (by rfl) wr.heap.size (vecA x) (by rfl) (by rfl) _ _ (Blk.new _ _ _) HS2.out HS3.out (vecA_one _) ?_))
      generalize hw1 : ((wr.alloc (.cells (vecA vec0) 24)).setRow wr.heap.size (vecA x)) = w1 at *
      clear hw1
      have M1 := Lib.hid (M.out.ext B1.out)
      have B2 := Lib.hid (B.out.trans (B1.out.mono B.out.size))
      have hg : wr.heap.size ≠ w.heap.size := by have := M.out.lt; omega
      have hg2 : w.heap.size < wr.heap.size := M.out.lt
      clear M B1 B
      generalize wr.heap.size = g at *
      obtain ⟨kl, hkey⟩ := kKey x X.out
      have hlen : l.length ≤ 40 := by
        have h1 := congrArg List.length KS.out
        rw [List.length_map, List.length_map] at h1
        have := uniq_len_le (vs.take k)
        rw [List.length_take] at this; omega
      obtain ⟨c0, st, o1, hget, hlook, hentry, hlook2, hstore⟩ := M1.out.entry kLaw kMap kZero (by unfold maxLen; omega) hkey
      have hc0 : ∃ z : Int, c0 = .int .i64 z ∧ 0 ≤ z ∧ z ≤ k := by
        rcases hget with ⟨_, rfl⟩ | hget
        · exact ⟨0, rfl, by omega, by omega⟩
        · exact VS.out _ hget
      obtain ⟨z, rfl, hz0, hz1⟩ := hc0
      obtain ⟨o2, l', hst, hput, hmap⟩ := hstore (.int .i64 (z + 1))
      have PUT := Lib.hid hput
      have hlt1 : w.heap.size < w1.heap.size := M1.out.lt
      have hl1 := hlook w1.drew rfl
      have he1 := hentry w1.drew rfl
      have hw2 : (setBlock w1.drew w.heap.size o1).heap[w.heap.size]? = some o1 := setBlock_heap hlt1
      have hl2 := hlook2 _ hw2
      have hs2 := hst _ hw2
      have MAP := Lib.hid (hmap (setBlock w1.drew w.heap.size o1) (by simpa [setBlock] using hlt1))
      have BB : Hid (Below w.heap.size w (setBlock (setBlock w1.drew w.heap.size o1) w.heap.size o2)) := setBlock_below (setBlock_below B2.out.drew (Nat.le_refl _) _) (Nat.le_refl _) _
      have ha : ∀ u : World, (binOp .add 3 (.int .i64 z) (.int .i64 1)).run Try.prog u = .ok (.int .i64 (z + 1)) u := fun u => by
        have e : IntKind.i64.wrap (z + 1) = z + 1 := IntWalk.i64_in _ (by omega)
        simp [go_sem, e]
      have hg' : ∀ (u : World) (x y : Operand), (eqGuard .add 3 x y (.int .i64 z) (.int .i64 1)).run Try.prog u = .ok () u := fun u x y => by simp [eqGuard]
      have KS1 : Blk w1.drew g 24 (vecA x) := K1.out
      have KS2 : Blk (setBlock w1.drew w.heap.size o1) g 24 (vecA x) := Blk.setBlock K1.out hg _
      have KS3 : Blk (setBlock (setBlock w1.drew w.heap.size o1) w.heap.size o2) g 24 (vecA x) := Blk.setBlock (Blk.setBlock K1.out hg _) hg _
      have F1 : Hid (l'.map (·.1) = (uniq (vs.take (k + 1))).map (fun v => Value.agg (vecA v))) := by rw [Hid, P1.out]; exact vecKeep KS.out x PUT.out
      have F2 : Hid (∀ p ∈ l', ∃ z : Int, p.2 = .int .i64 z ∧ 0 ≤ z ∧ z ≤ ((k + 1 : Nat) : Int)) := by
        intro p hp
        rcases PUT.out with ⟨_, rfl⟩ | ⟨j, v0, _, rfl⟩
        · rcases List.mem_append.1 hp with hp | hp
          · obtain ⟨y, h1, h2, h3⟩ := VS.out p hp; exact ⟨y, h1, h2, by omega⟩
          · rw [List.mem_singleton] at hp; subst hp; exact ⟨z + 1, rfl, by omega, by omega⟩
        · rcases List.mem_or_eq_of_mem_set hp with hp | rfl
          · obtain ⟨y, h1, h2, h3⟩ := VS.out p hp; exact ⟨y, h1, h2, by omega⟩
          · exact ⟨z + 1, rfl, by omega, by omega⟩
      clear hstore hget hput hmap hkey hlook hentry hlook2 hst hw2 P1 KS VS PUT
      generalize (setBlock w1.drew w.heap.size o1) = w2 at *
      generalize (setBlock w2 w.heap.size o2) = w3 at *
      go_wp2_with fail
      refine wp_region_held (S := fun w' => Blk w' g 24 (vecA x)) mixed ?_
      change wpAnyH _ _ _ _ _ _ _ _ w1.drew
      generalize w1.drew = wd at *
      simp only [List.size_toArray, List.length_cons, List.length_nil]
      refine take_move (i := 0) rfl (by kernel_rfl) (by kernel_rfl) (by kernel_rfl) (fun _ _ _ h => h) rfl rfl KS1 ?_
      simp only [Act.put, List.setIfInBounds_toArray, List.set_cons_zero, List.set_cons_succ]
      refine take_row (i := 1) rfl (by kernel_rfl) (by kernel_rfl) (by kernel_rfl) (fun _ _ _ h => h) rfl rfl (fun _ h => h) under64 rfl HS2.out KS1 ?_
      simp only [Act.put, List.setIfInBounds_toArray, List.set_cons_zero, List.set_cons_succ]
      refine wpAnyH_all (rs := [2, 4]) (by kernel_rfl) (by simp) ?_
      intro i hi
      simp only [List.mem_cons, List.not_mem_nil, or_false] at hi
      rcases hi with rfl | rfl
      · refine wpOp_of rfl rfl (wp_looked rfl rfl hl1 ?_)
        refine ⟨KS1, ?_⟩
        simp only [Act.put, List.setIfInBounds_toArray, List.set_cons_zero, List.set_cons_succ]
        refine wpAnyH_all (rs := [3, 4]) (by kernel_rfl) (by simp) ?_
        intro i hi
        simp only [List.mem_cons, List.not_mem_nil, or_false] at hi
        rcases hi with rfl | rfl
        · refine wpOp_of rfl rfl (wp_computed rfl rfl (hg' _ _ _) (ha _) ?_)
          refine ⟨KS1, ?_⟩
          simp only [Act.put, List.setIfInBounds_toArray, List.set_cons_zero, List.set_cons_succ]
          refine wpAnyH_all (rs := [4]) (by kernel_rfl) (by simp) ?_
          intro i hi
          simp only [List.mem_cons, List.not_mem_nil, or_false] at hi
          subst hi
          refine wpOp_of rfl rfl (wp_entered rfl rfl he1 ?_)
          refine ⟨KS2, ?_⟩
          simp only [Act.put, List.setIfInBounds_toArray, List.set_cons_zero, List.set_cons_succ]
          refine wpAnyH_all (rs := [5]) (by kernel_rfl) (by simp) ?_
          intro i hi
          simp only [List.mem_cons, List.not_mem_nil, or_false] at hi
          subst hi
          refine wpOp_of rfl rfl (wp_extracted rfl rfl ?_)
          refine ⟨KS2, ?_⟩
          simp only [Act.put, List.setIfInBounds_toArray, List.set_cons_zero, List.set_cons_succ]
          refine wpAnyH_all (rs := [6]) (by kernel_rfl) (by simp) ?_
          intro i hi
          simp only [List.mem_cons, List.not_mem_nil, or_false] at hi
          subst hi
          refine wpOp_of rfl rfl (wp_estored rfl rfl rfl hs2 ?_)
          refine ⟨KS3, ?_⟩
          refine wpAnyH_done (by kernel_rfl) ?_ _
          go_wp2_with fail
          go_roundw
          case rel => exact ⟨k + 1, l', by omega, by go_num, F1.out, F2.out, MAP.out, BB.out⟩
          case measure => simp [intOf]; omega
        · refine wpOp_of rfl rfl (wp_entered rfl rfl he1 ?_)
          refine ⟨KS2, ?_⟩
          simp only [Act.put, List.setIfInBounds_toArray, List.set_cons_zero, List.set_cons_succ]
          refine wpAnyH_all (rs := [3, 5]) (by kernel_rfl) (by simp) ?_
          intro i hi
          simp only [List.mem_cons, List.not_mem_nil, or_false] at hi
          rcases hi with rfl | rfl
          · refine wpOp_of rfl rfl (wp_computed rfl rfl (hg' _ _ _) (ha _) ?_)
            refine ⟨KS2, ?_⟩
            simp only [Act.put, List.setIfInBounds_toArray, List.set_cons_zero, List.set_cons_succ]
            refine wpAnyH_all (rs := [5]) (by kernel_rfl) (by simp) ?_
            intro i hi
            simp only [List.mem_cons, List.not_mem_nil, or_false] at hi
            subst hi
            refine wpOp_of rfl rfl (wp_extracted rfl rfl ?_)
            refine ⟨KS2, ?_⟩
            simp only [Act.put, List.setIfInBounds_toArray, List.set_cons_zero, List.set_cons_succ]
            refine wpAnyH_all (rs := [6]) (by kernel_rfl) (by simp) ?_
            intro i hi
            simp only [List.mem_cons, List.not_mem_nil, or_false] at hi
            subst hi
            refine wpOp_of rfl rfl (wp_estored rfl rfl rfl hs2 ?_)
            refine ⟨KS3, ?_⟩
            refine wpAnyH_done (by kernel_rfl) ?_ _
            go_wp2_with fail
            go_roundw
            case rel => exact ⟨k + 1, l', by omega, by go_num, F1.out, F2.out, MAP.out, BB.out⟩
            case measure => simp [intOf]; omega
          · refine wpOp_of rfl rfl (wp_extracted rfl rfl ?_)
            refine ⟨KS2, ?_⟩
            simp only [Act.put, List.setIfInBounds_toArray, List.set_cons_zero, List.set_cons_succ]
            refine wpAnyH_all (rs := [3]) (by kernel_rfl) (by simp) ?_
            intro i hi
            simp only [List.mem_cons, List.not_mem_nil, or_false] at hi
            subst hi
            refine wpOp_of rfl rfl (wp_computed rfl rfl (hg' _ _ _) (ha _) ?_)
            refine ⟨KS2, ?_⟩
            simp only [Act.put, List.setIfInBounds_toArray, List.set_cons_zero, List.set_cons_succ]
            refine wpAnyH_all (rs := [6]) (by kernel_rfl) (by simp) ?_
            intro i hi
            simp only [List.mem_cons, List.not_mem_nil, or_false] at hi
            subst hi
            refine wpOp_of rfl rfl (wp_estored rfl rfl rfl hs2 ?_)
            refine ⟨KS3, ?_⟩
            refine wpAnyH_done (by kernel_rfl) ?_ _
            go_wp2_with fail
            go_roundw
            case rel => exact ⟨k + 1, l', by omega, by go_num, F1.out, F2.out, MAP.out, BB.out⟩
            case measure => simp [intOf]; omega
      · refine wpOp_of rfl rfl (wp_entered rfl rfl he1 ?_)
        refine ⟨KS2, ?_⟩
        simp only [Act.put, List.setIfInBounds_toArray, List.set_cons_zero, List.set_cons_succ]
        refine wpAnyH_all (rs := [2, 5]) (by kernel_rfl) (by simp) ?_
        intro i hi
        simp only [List.mem_cons, List.not_mem_nil, or_false] at hi
        rcases hi with rfl | rfl
        · refine wpOp_of rfl rfl (wp_looked rfl rfl hl2 ?_)
          refine ⟨KS2, ?_⟩
          simp only [Act.put, List.setIfInBounds_toArray, List.set_cons_zero, List.set_cons_succ]
          refine wpAnyH_all (rs := [3, 5]) (by kernel_rfl) (by simp) ?_
          intro i hi
          simp only [List.mem_cons, List.not_mem_nil, or_false] at hi
          rcases hi with rfl | rfl
          · refine wpOp_of rfl rfl (wp_computed rfl rfl (hg' _ _ _) (ha _) ?_)
            refine ⟨KS2, ?_⟩
            simp only [Act.put, List.setIfInBounds_toArray, List.set_cons_zero, List.set_cons_succ]
            refine wpAnyH_all (rs := [5]) (by kernel_rfl) (by simp) ?_
            intro i hi
            simp only [List.mem_cons, List.not_mem_nil, or_false] at hi
            subst hi
            refine wpOp_of rfl rfl (wp_extracted rfl rfl ?_)
            refine ⟨KS2, ?_⟩
            simp only [Act.put, List.setIfInBounds_toArray, List.set_cons_zero, List.set_cons_succ]
            refine wpAnyH_all (rs := [6]) (by kernel_rfl) (by simp) ?_
            intro i hi
            simp only [List.mem_cons, List.not_mem_nil, or_false] at hi
            subst hi
            refine wpOp_of rfl rfl (wp_estored rfl rfl rfl hs2 ?_)
            refine ⟨KS3, ?_⟩
            refine wpAnyH_done (by kernel_rfl) ?_ _
            go_wp2_with fail
            go_roundw
            case rel => exact ⟨k + 1, l', by omega, by go_num, F1.out, F2.out, MAP.out, BB.out⟩
            case measure => simp [intOf]; omega
          · refine wpOp_of rfl rfl (wp_extracted rfl rfl ?_)
            refine ⟨KS2, ?_⟩
            simp only [Act.put, List.setIfInBounds_toArray, List.set_cons_zero, List.set_cons_succ]
            refine wpAnyH_all (rs := [3]) (by kernel_rfl) (by simp) ?_
            intro i hi
            simp only [List.mem_cons, List.not_mem_nil, or_false] at hi
            subst hi
            refine wpOp_of rfl rfl (wp_computed rfl rfl (hg' _ _ _) (ha _) ?_)
            refine ⟨KS2, ?_⟩
            simp only [Act.put, List.setIfInBounds_toArray, List.set_cons_zero, List.set_cons_succ]
            refine wpAnyH_all (rs := [6]) (by kernel_rfl) (by simp) ?_
            intro i hi
            simp only [List.mem_cons, List.not_mem_nil, or_false] at hi
            subst hi
            refine wpOp_of rfl rfl (wp_estored rfl rfl rfl hs2 ?_)
            refine ⟨KS3, ?_⟩
            refine wpAnyH_done (by kernel_rfl) ?_ _
            go_wp2_with fail
            go_roundw
            case rel => exact ⟨k + 1, l', by omega, by go_num, F1.out, F2.out, MAP.out, BB.out⟩
            case measure => simp [intOf]; omega
        · refine wpOp_of rfl rfl (wp_extracted rfl rfl ?_)
          refine ⟨KS2, ?_⟩
          simp only [Act.put, List.setIfInBounds_toArray, List.set_cons_zero, List.set_cons_succ]
          refine wpAnyH_all (rs := [2]) (by kernel_rfl) (by simp) ?_
          intro i hi
          simp only [List.mem_cons, List.not_mem_nil, or_false] at hi
          subst hi
          refine wpOp_of rfl rfl (wp_looked rfl rfl hl2 ?_)
          refine ⟨KS2, ?_⟩
          simp only [Act.put, List.setIfInBounds_toArray, List.set_cons_zero, List.set_cons_succ]
          refine wpAnyH_all (rs := [3]) (by kernel_rfl) (by simp) ?_
          intro i hi
          simp only [List.mem_cons, List.not_mem_nil, or_false] at hi
          subst hi
          refine wpOp_of rfl rfl (wp_computed rfl rfl (hg' _ _ _) (ha _) ?_)
          refine ⟨KS2, ?_⟩
          simp only [Act.put, List.setIfInBounds_toArray, List.set_cons_zero, List.set_cons_succ]
          refine wpAnyH_all (rs := [6]) (by kernel_rfl) (by simp) ?_
          intro i hi
          simp only [List.mem_cons, List.not_mem_nil, or_false] at hi
          subst hi
          refine wpOp_of rfl rfl (wp_estored rfl rfl rfl hs2 ?_)
          refine ⟨KS3, ?_⟩
          refine wpAnyH_done (by kernel_rfl) ?_ _
          go_wp2_with fail
          go_roundw
          case rel => exact ⟨k + 1, l', by omega, by go_num, F1.out, F2.out, MAP.out, BB.out⟩
          case measure => simp [intOf]; omega
    · have hk' : k = n := by omega
      subst hk'
      have F : Hid (l.length = (uniq vs).length) := by
        have h1 := congrArg List.length KS.out
        rw [List.length_map, List.length_map, List.take_of_length_le (by rw [HL.out]; exact Nat.le_refl _)] at h1; exact h1
      have hln := M.out.len (ty := 3) kMap
      rw [F.out] at hln
      clear KS VS M
      go_wp2
      go_ret
      exact ⟨rfl, B.out⟩
end Go.Proofs.Ytceapefjdiphpaa
