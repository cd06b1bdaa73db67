/- vid.Set: names of vertices, each once, rising. -/
import Derived.Test.YtmfdggolnfoniaaDoorSetgV
import Derived.Test.YtmfdggolnfoniaaDoorSetk
import Derived.Test.YtmfdggolnfoniaaDoorHeldm
import Derived.Deep.RegionHeld3
import Derived.Deep.DeepCutAuto
namespace Go.Proofs.YtmfdggolnfoniaaDoor
open Go.RowKit Go.Sort
open Go.ChangeMaps (setBlock)

theorem cmpLaysV (blk off size : Nat) (w : World) : CmpLays Tryd.prog 24 #[] encV 3 (fun x y => signV (keyV x) (keyV y)) blk off size w :=
  fun _ _ _ _ x y => (vcmpG x y _).mono fun _ _ ⟨he, hg⟩ => ⟨he, hg.grow⟩
theorem isAggV (w : World) : (isAgg 36).run Tryd.prog w = .ok true w := by kernel_rfl
theorem sizeVt (w : World) : (Go.sizeOf 36).run Tryd.prog w = .ok 3 w := by kernel_rfl
theorem sortV (l : List VidV) (w : World) (base n : Nat) (v : Value) (hn : l.length = n) (hm : n ≤ 100000) (h : w.ownsRow base 36 3 v n (l.flatMap encV)) :
    Calls Tryd.prog 56 #[v, .func (.func 24) #[] #[]] w fun e w' => e = .returned (.tuple #[]) ∧ Below base w w' ∧
      ∃ d : List VidV, d.Perm l ∧ (d.Pairwise fun a b => keyV a ≤ keyV b) ∧ w'.ownsRow base 36 3 v n (d.flatMap encV) := by
  rcases h.2 with ⟨rfl, hx⟩ | ⟨g, cap, cur, rfl, hg, hh, hnc, hrest⟩
  · subst hx
    have hl : l = [] := List.length_eq_zero_iff.1 hn
    subst hl
    refine (AnyF.slices_SortFunc_none Tryd.sortVid none 0 _ w).mono ?_
    rintro e w' ⟨rfl, rfl⟩
    exact ⟨rfl, Below.refl _ _, [], List.Perm.refl _, List.Pairwise.nil, h⟩
  · have eg : ∀ args w, (callFunc 24 args).run Tryd.prog w = .ok (.enter 24 args) w := enters_of Tryd.func24 (by kernel_rfl) rfl
    have hblk := (h.lt g rfl).2
    have hcon := AnyQ.slices_SortFunc Tryd.sortVid 3 isAggV sizeVt encV encV_len encV_one (fun x y => signV (keyV x) (keyV y)) (swo_sign keyV) 24 #[] g 0 cap l.toArray w eg (cmpLaysV g 0 l.toArray.size w) (own_holds encV_len h hn) hblk (by simp only [List.size_toArray]; omega)
    rw [show l.toArray.size = n by simp [hn]] at hcon
    refine Calls.mono hcon ?_
    rintro e w' ⟨rfl, d', m, os, hp, hs, rfl⟩
    obtain ⟨d, rfl⟩ : ∃ d : List VidV, d' = d.toArray := ⟨d'.toList, by simp⟩
    have hp' : PermIn 0 l.toArray.size l.toArray d.toArray := by rw [show l.toArray.size = n by simp [hn]]; exact hp
    obtain ⟨p1, p2⟩ := perm_of_in hp'
    have hs' : SortedIn (ltOf fun x y : VidV => signV (keyV x) (keyV y)) 0 d.length d.toArray := by rw [show d.length = n by omega]; exact hs
    obtain ⟨o1, o2⟩ := own_sorted encV_len h d (by omega) m os
    exact ⟨rfl, o2, d, p1, pair_of_sorted (ltOf_sign keyV) hs', o1⟩

def addV (acc : List VidV) (x : VidV) : List VidV := if x ∈ acc then acc else acc ++ [x]
def uniqV (vs : List VidV) : List VidV := vs.foldl addV []
theorem uniqV_snoc {vs : List VidV} {k : Nat} {x : VidV} (h : vs[k]? = some x) : uniqV (vs.take (k + 1)) = addV (uniqV (vs.take k)) x := by
  unfold uniqV; rw [take_snoc' h, List.foldl_append]; rfl
theorem uniqV_go (vs : List VidV) : ∀ acc : List VidV, acc.Nodup → (vs.foldl addV acc).Nodup ∧ (∀ y, y ∈ vs.foldl addV acc ↔ y ∈ acc ∨ y ∈ vs) ∧ (vs.foldl addV acc).length ≤ acc.length + vs.length := by
  induction vs with
  | nil => intro acc h; exact ⟨h, fun y => by simp, by simp⟩
  | cons x vs ih =>
    intro acc h
    rw [List.foldl_cons]
    have h1 : (addV acc x).Nodup := by
      unfold addV
      split
      · exact h
      · rename_i hx
        exact List.nodup_append.2 ⟨h, by simp, fun a ha b hb => by obtain rfl := List.mem_singleton.1 hb; rintro rfl; exact hx ha⟩
    have h2 : ∀ y, y ∈ addV acc x ↔ y ∈ acc ∨ y = x := by
      intro y; unfold addV
      split
      · rename_i hx
        exact ⟨.inl, fun h => h.elim id (fun e => e ▸ hx)⟩
      · simp
    have h3 : (addV acc x).length ≤ acc.length + 1 := by unfold addV; split <;> simp
    obtain ⟨i1, i2, i3⟩ := ih _ h1
    refine ⟨i1, fun y => ?_, by simp only [List.length_cons]; omega⟩
    rw [i2, h2, List.mem_cons, or_assoc]
theorem uniqV_nodup (vs : List VidV) : (uniqV vs).Nodup := (uniqV_go vs [] List.nodup_nil).1
theorem uniqV_mem (vs : List VidV) (y : VidV) : y ∈ uniqV vs ↔ y ∈ vs := by rw [uniqV, (uniqV_go vs [] List.nodup_nil).2.1]; simp
theorem uniqV_len (vs : List VidV) : (uniqV vs).length ≤ vs.length := by have := (uniqV_go vs [] List.nodup_nil).2.2; simpa [uniqV] using this
theorem sorted_set {d vs : List VidV} (hp : d.Perm (uniqV vs)) (hs : d.Pairwise fun a b => keyV a ≤ keyV b) : d = setK keyV vs := by
  have hn : d.Nodup := hp.nodup_iff.2 (uniqV_nodup vs)
  refine rise_eq ?_ (setK_rise keyV_inj vs) (fun z => ?_)
  · rw [List.Nodup] at hn
    exact (hs.and hn).imp fun {a b} h => by
      have : keyV a ≠ keyV b := fun e => h.2 (keyV_inj _ _ e)
      omega
  · rw [hp.mem_iff, uniqV_mem, setK_mem keyV_inj]
theorem encV_inj {x y : VidV} (h : (encV x).toArray = (encV y).toArray) : x = y := by
  have h := congrArg Array.toList h
  simp only [encV, List.cons.injEq, Value.int.injEq, true_and, and_true] at h
  exact Prod.ext (Prod.ext (Fin.ext (by omega)) (Fin.ext (by omega))) (Fin.ext (by omega))
theorem kLawV : Go.WideMaps.KeyLaw Tryd.prog 36 := deep_law_laid (by kernel_rfl) (m := 3) (by omega) (of_decide_eq_true (by kernel_rfl)) (by kernel_rfl) (by kernel_rfl)
theorem kMapV : Tryd.prog.underlying 75 = some (.map 36 3) := by kernel_rfl
theorem kZeroV (u : World) : (zeroValue 3).run Tryd.prog u = .ok (.int .i64 0) u := by kernel_rfl
theorem kKeyV (v : VidV) : ∃ kl, keyOf Tryd.prog 36 (.agg (encV v).toArray) = some kl := by
  have h1 := v.1.1.isLt
  have h2 := v.1.2.isLt
  have h3 := v.2.isLt
  have : FlatOk [.int .u8, .int .u16, .int .u8] (encV v) := by
    refine ⟨⟨_, rfl, ?_⟩, ⟨_, rfl, ?_⟩, ⟨_, rfl, ?_⟩, trivial⟩ <;> simp [Lit.wf, IntKind.min, IntKind.max, IntKind.signed, IntKind.bits] <;> omega
  exact keyOf_flat (by kernel_rfl) (by kernel_rfl) (by kernel_rfl) (by kernel_rfl) (of_decide_eq_true (by kernel_rfl)) this
theorem makeV (w : World) : (Instr.makeMap 75 none).run Tryd.prog w = .ok (.map (some w.heap.size)) (w.alloc (.map #[] 0)) := by kernel_rfl
theorem allocV (w : World) : (Instr.alloc 36 true (.tuple #[])).run Tryd.prog w = .ok (.pointer (some ⟨w.heap.size, 0, none⟩)) (w.alloc (.cells #[.int .u8 0, .int .u16 0, .int .u8 0] 36)) := by kernel_rfl
theorem own_keep {w w' : World} {base : Nat} {e : TypeId} {size n : Nat} {v : Value} {xs : List Value} (h : w.ownsRow base e size v n xs) (hk : ∀ g, base ≤ g → g < w.heap.size → w'.heap[g]? = w.heap[g]?) : w'.ownsRow base e size v n xs := by
  have hlt := h.lt
  obtain ⟨h1, h2⟩ := h
  refine ⟨h1, ?_⟩
  rcases h2 with h | ⟨g, cap, cur, rfl, hg, h3, h4⟩
  · exact .inl h
  · exact .inr ⟨g, cap, cur, rfl, hg, (hk g hg (hlt g rfl).2).trans h3, h4⟩
theorem wpList_looked {P : Program} {ops : Array Oper} {rest : List Oper} {a : Act} {w : World} {Q : Exit → Act → World → Prop} {d : Option Tmp} {ty t : TypeId} {pos : String} {after : Array Edge} {m x : Operand} {mv kv v : Value} {ok : Bool} (hm : a.eval m = mv) (hx : a.eval x = kv) (hr : (Instr.lookup t mv kv ok).run P w = .ok v w)
    (h : wpList P ops Q rest (a.put d v) w) : wpList P ops Q (⟨d, .lookup t m x ok, ty, pos, after, none⟩ :: rest) a w :=
  wpList_plain rfl fun _ hK => wp_looked hm hx hr (hK _ _ h)
/-- the counts of a round -/
theorem vidKeep {l : List (Value × Value)} {us : List VidV} (h : l.map (·.1) = us.map (fun v => Value.agg (encV v).toArray)) (x : VidV) {l' : List (Value × Value)} {val : Value} (hp : PutL l (.agg (encV x).toArray) val l') :
    l'.map (·.1) = (addV us x).map (fun v => Value.agg (encV v).toArray) := by
  have hm : (Value.agg (encV x).toArray) ∈ l.map (·.1) ↔ x ∈ us := by
    rw [h, List.mem_map]
    constructor
    · rintro ⟨y, hy, e⟩; injection e with e; rwa [← encV_inj e]
    · exact fun hx => ⟨x, hx, rfl⟩
  unfold addV
  rcases hp.keys with ⟨h1, h2⟩ | ⟨h1, h2⟩
  · rw [if_neg (fun hx => h1 (hm.2 hx)), h2, h]; simp
  · rw [if_pos (hm.1 h1), h2, h]
theorem vidNew {l : List (Value × Value)} {us : List VidV} (h : l.map (·.1) = us.map (fun v => Value.agg (encV v).toArray)) {x : VidV} {c0 : Value} (hg : GetL l (.agg (encV x).toArray) (.int .i64 0) c0) :
    (x ∉ us ∧ c0 = .int .i64 0) ∨ (x ∈ us ∧ (Value.agg (encV x).toArray, c0) ∈ l) := by
  rcases hg with ⟨h1, h2⟩ | h1
  · refine .inl ⟨fun hx => ?_, h2⟩
    have : (Value.agg (encV x).toArray) ∈ l.map (·.1) := by rw [h]; exact List.mem_map.2 ⟨x, hx, rfl⟩
    obtain ⟨p, hp, e⟩ := List.mem_map.1 this
    exact h1 p hp e
  · refine .inr ⟨?_, h1⟩
    have : (Value.agg (encV x).toArray) ∈ l.map (·.1) := List.mem_map.2 ⟨_, h1, rfl⟩
    rw [h] at this
    obtain ⟨y, hy, e⟩ := List.mem_map.1 this
    injection e with e
    rwa [← encV_inj e]
theorem put_mem {l l' : List (Value × Value)} {key val : Value} (h : PutL l key val l') : (key, val) ∈ l' := by
  rcases h with ⟨_, rfl⟩ | ⟨j, v0, hj, rfl⟩
  · simp
  · exact List.mem_set (List.getElem?_eq_some_iff.1 hj).1 _

set_option maxRecDepth 100000 in
set_option maxHeartbeats 8000000 in
theorem vsetV (L : List VidV) (w : World) (A : Option Addr) (n c : Nat) (hm : n ≤ 1000) (h : VidsAt w A n L) :
    Calls Tryd.prog 32 #[.slice A n c] w (OwnedRet w 36 3 (setK keyV L).length ((setK keyV L).flatMap encV)) := by
  have H := Lib.hid h
  clear h
  have hmk := makeV
  go_enter Tryd.func32, Tryd.ntmps32
  go_wp2_with fail
  clear hmk
  have M0 : Hid (MapIs Tryd.prog 36 (w.alloc (.map #[] 0)) w.heap.size []) := MapIs.made _ _ _
  have B0 : Hid (Below w.heap.size w (w.alloc (.map #[] 0))) := (Below.refl _ _).alloc (Nat.le_refl _) _
  generalize (w.alloc (.map #[] 0)) = w0 at *
  go_loopw [4, 10] (fun v i wr => ∃ (k : Nat) (l : List (Value × Value)) (us : List VidV), k ≤ n ∧ us.length ≤ k ∧ i = .int .i64 k ∧ Hid (us = uniqV (L.take k)) ∧ Hid (l.map (·.1) = us.map (fun v => Value.agg (encV v).toArray)) ∧ Hid (∀ p ∈ l, ∃ z : Int, p.2 = .int .i64 z ∧ 1 ≤ z ∧ z ≤ k) ∧ Hid (MapIs Tryd.prog 36 wr w.heap.size l) ∧ Hid (wr.ownsRow (w.heap.size + 1) 36 3 v us.length (us.flatMap encV)) ∧ Hid (Below w.heap.size w wr)) (fun _ i _ => n - (intOf i).toNat)
  case atStart => exact ⟨0, [], [], by omega, by simp, rfl, rfl, rfl, by simp [Hid], M0.out, World.ownsRow_nil _ _ _ _, B0.out⟩
  case round =>
    clear M0 B0
    obtain ⟨k, l, us, hk, hus, rfl, US, KS, VS, M, O, B⟩ := hrel
    by_cases hlt : k < n
    · obtain ⟨b, o, x, rfl, hb, hx, hr⟩ := H.out.at_ hlt
      have P1 := Lib.hid (uniqV_snoc hx)
      rw [← US.out] at P1
      have hlk : (k : Int) < (n : Int) := by omega
      have hk0 : (0 : Int) ≤ (k : Int) := by omega
      have R := Lib.hid (rangeAt_below hr B.out hb)
      have HS2 : Hid ((Tryd.prog.info? 36).map (·.size) = some (encV x).toArray.size) := infoVid
      have K1 : Hid (Blk ((wr.alloc (.cells #[.int .u8 0, .int .u16 0, .int .u8 0] 36)).setRow wr.heap.size (encV x).toArray) wr.heap.size 36 (encV x).toArray) := (Blk.new _ _ _).row _
      have B1 : Hid (Below wr.heap.size wr ((wr.alloc (.cells #[.int .u8 0, .int .u16 0, .int .u8 0] 36)).setRow wr.heap.size (encV x).toArray)) := below_setRow ((Below.refl _ _).alloc (Nat.le_refl _) _) (Nat.le_refl _) _
      clear hr hx
      go_upto_region 6 with (first
        | (refine wpList_load_mid rfl 36 _ (by rfl) b (o + k * 3) (by rfl) _ _ R.out underVid rfl infoVid ?_)
        | (refine wpList_alloced (allocV _) ?_)
        | (refine wpList_store_row rfl 36 _ _ (by rfl) wr.heap.size (encV x).toArray (by rfl) (by rfl) _ _ (Blk.new _ _ _) HS2.out rfl (all_oneCell_toArray (encV_one x)) ?_))
      generalize hw1 : ((wr.alloc (.cells #[.int .u8 0, .int .u16 0, .int .u8 0] 36)).setRow wr.heap.size (encV x).toArray) = w1 at *
      clear hw1
      have M1 := Lib.hid (M.out.ext B1.out)
      have O1 := Lib.hid (own_ext O.out B1.out)
      have B2 := Lib.hid (B.out.trans (B1.out.mono B.out.size))
      have hg : wr.heap.size ≠ w.heap.size := by have := M.out.lt; omega
      have hg2 : w.heap.size < wr.heap.size := M.out.lt
      clear M B1 B O
      generalize wr.heap.size = g at *
      obtain ⟨kl, hkey⟩ := kKeyV x
      have hlen : l.length ≤ 1000 := by
        have h1 := congrArg List.length KS.out
        rw [List.length_map, List.length_map] at h1
        omega
      obtain ⟨c0, st, o1, hget, hlook, hentry, hlook2, hstore⟩ := M1.out.entry kLawV kMapV kZeroV (by unfold maxLen; omega) hkey
      have hc0 := vidNew KS.out hget
      have hz : ∃ z : Int, c0 = .int .i64 z ∧ 0 ≤ z ∧ z ≤ k ∧ ((x ∉ us ∧ z = 0) ∨ (x ∈ us ∧ 1 ≤ z)) := by
        rcases hc0 with ⟨h1, rfl⟩ | ⟨h1, h2⟩
        · exact ⟨0, rfl, by omega, by omega, .inl ⟨h1, rfl⟩⟩
        · obtain ⟨z, hz, h3, h4⟩ := VS.out _ h2
          exact ⟨z, hz, by omega, h4, .inr ⟨h1, h3⟩⟩
      obtain ⟨z, rfl, hz0, hz1, hzz⟩ := hz
      obtain ⟨o2, l', hst, hput, hmap⟩ := hstore (.int .i64 (z + 1))
      have PUT := Lib.hid hput
      have hlt1 : w.heap.size < w1.heap.size := M1.out.lt
      have hl1 := hlook w1.drew rfl
      have he1 := hentry w1.drew rfl
      have hw2 : (setBlock w1.drew w.heap.size o1).heap[w.heap.size]? = some o1 := setBlock_heap hlt1
      have hl2 := hlook2 _ hw2
      have hs2 := hst _ hw2
      have MAP := Lib.hid (hmap (setBlock w1.drew w.heap.size o1) (by simpa [setBlock] using hlt1))
      have BB : Hid (Below w.heap.size w (setBlock (setBlock w1.drew w.heap.size o1) w.heap.size o2)) := setBlock_below (setBlock_below B2.out.drew (Nat.le_refl _) _) (Nat.le_refl _) _
      have OO : Hid ((setBlock (setBlock w1.drew w.heap.size o1) w.heap.size o2).ownsRow (w.heap.size + 1) 36 3 _ us.length (us.flatMap encV)) := own_keep O1.out fun j hj _ => (setBlock_other (by omega)).trans (setBlock_other (by omega))
      have ha : ∀ u : World, (binOp .add 3 (.int .i64 z) (.int .i64 1)).run Tryd.prog u = .ok (.int .i64 (z + 1)) u := fun u => by
        have e : IntKind.i64.wrap (z + 1) = z + 1 := IntWalk.i64_in _ (by omega)
        simp [go_sem, e]
      have hgd : ∀ (u : World) (x y : Operand), (eqGuard .add 3 x y (.int .i64 z) (.int .i64 1)).run Tryd.prog u = .ok () u := fun u x y => by simp [eqGuard]
      have KS1 : Blk w1.drew g 36 (encV x).toArray := K1.out
      have KS2 : Blk (setBlock w1.drew w.heap.size o1) g 36 (encV x).toArray := Blk.setBlock K1.out hg _
      have KS3 : Blk (setBlock (setBlock w1.drew w.heap.size o1) w.heap.size o2) g 36 (encV x).toArray := Blk.setBlock (Blk.setBlock K1.out hg _) hg _
      have F1 := Lib.hid (vidKeep KS.out x PUT.out)
      have F2 : Hid (∀ p ∈ l', ∃ z : Int, p.2 = .int .i64 z ∧ 1 ≤ z ∧ z ≤ ((k + 1 : Nat) : Int)) := by
        intro p hp
        rcases PUT.out with ⟨_, rfl⟩ | ⟨j, v0, _, rfl⟩
        · rcases List.mem_append.1 hp with hp | hp
          · obtain ⟨y, h1, h2, h3⟩ := VS.out p hp; exact ⟨y, h1, h2, by omega⟩
          · rw [List.mem_singleton] at hp; subst hp; exact ⟨z + 1, rfl, by omega, by omega⟩
        · rcases List.mem_or_eq_of_mem_set hp with hp | rfl
          · obtain ⟨y, h1, h2, h3⟩ := VS.out p hp; exact ⟨y, h1, h2, by omega⟩
          · exact ⟨z + 1, rfl, by omega, by omega⟩
      obtain ⟨v3, hget3, hlook3⟩ := MAP.out.look kLawV kMapV kZeroV hkey
      obtain rfl : v3 = .int .i64 (z + 1) := GetL.one MAP.out.apart hget3 (.inr (put_mem PUT.out))
      have hl3 := hlook3 _ rfl
      have ZZ := Lib.hid hzz
      clear hstore hget hput hmap hkey hlook hentry hlook2 hst hw2 KS VS PUT hc0 hget3 hlook3 hzz O1 B2 M1
      generalize (setBlock w1.drew w.heap.size o1) = w2 at *
      generalize (setBlock w2 w.heap.size o2) = w3 at *
      simp only [Act.put, List.setIfInBounds_toArray, List.set_cons_zero, List.set_cons_succ]
      go_cut [14] (fun s14 wx => s14 = .map (some w.heap.size) ∧ wx = w3)
      case first =>
        refine wp_region_held (S := fun w' => Blk w' g 36 (encV x).toArray) mixedS ?_
        change wpAnyH _ _ _ _ _ _ _ _ w1.drew
        generalize w1.drew = wd at *
        simp only [List.size_toArray, List.length_cons, List.length_nil]
        refine take_move (i := 0) rfl (by kernel_rfl) (by kernel_rfl) (by kernel_rfl) (fun _ _ _ h => h) rfl rfl KS1 ?_
        simp only [Act.put, List.setIfInBounds_toArray, List.set_cons_zero, List.set_cons_succ]
        refine take_row (i := 1) rfl (by kernel_rfl) (by kernel_rfl) (by kernel_rfl) (fun _ _ _ h => h) rfl rfl (fun _ h => h) underVid rfl HS2.out KS1 ?_
        simp only [Act.put, List.setIfInBounds_toArray, List.set_cons_zero, List.set_cons_succ]
        refine wpAnyH_all (rs := [2, 4]) (by kernel_rfl) (by simp) ?_
        intro i hi
        simp only [List.mem_cons, List.not_mem_nil, or_false] at hi
        rcases hi with rfl | rfl
        · refine wpOp_of rfl rfl (wp_looked rfl rfl hl1 ?_)
          refine ⟨KS1, ?_⟩
          simp only [Act.put, List.setIfInBounds_toArray, List.set_cons_zero, List.set_cons_succ]
          refine wpAnyH_all (rs := [3, 4]) (by kernel_rfl) (by simp) ?_
          intro i hi
          simp only [List.mem_cons, List.not_mem_nil, or_false] at hi
          rcases hi with rfl | rfl
          · refine wpOp_of rfl rfl (wp_computed rfl rfl (hgd _ _ _) (ha _) ?_)
            refine ⟨KS1, ?_⟩
            simp only [Act.put, List.setIfInBounds_toArray, List.set_cons_zero, List.set_cons_succ]
            refine wpAnyH_all (rs := [4]) (by kernel_rfl) (by simp) ?_
            intro i hi
            simp only [List.mem_cons, List.not_mem_nil, or_false] at hi
            subst hi
            refine wpOp_of rfl rfl (wp_entered rfl rfl he1 ?_)
            refine ⟨KS2, ?_⟩
            simp only [Act.put, List.setIfInBounds_toArray, List.set_cons_zero, List.set_cons_succ]
            refine wpAnyH_all (rs := [5]) (by kernel_rfl) (by simp) ?_
            intro i hi
            simp only [List.mem_cons, List.not_mem_nil, or_false] at hi
            subst hi
            refine wpOp_of rfl rfl (wp_extracted rfl rfl ?_)
            refine ⟨KS2, ?_⟩
            simp only [Act.put, List.setIfInBounds_toArray, List.set_cons_zero, List.set_cons_succ]
            refine wpAnyH_all (rs := [6]) (by kernel_rfl) (by simp) ?_
            intro i hi
            simp only [List.mem_cons, List.not_mem_nil, or_false] at hi
            subst hi
            refine wpOp_of rfl rfl (wp_estored rfl rfl rfl hs2 ?_)
            refine ⟨KS3, ?_⟩
            refine wpAnyH_done (by kernel_rfl) ?_ _
            go_wp2_with fail
            go_meet
            exact ⟨rfl, rfl⟩
          · refine wpOp_of rfl rfl (wp_entered rfl rfl he1 ?_)
            refine ⟨KS2, ?_⟩
            simp only [Act.put, List.setIfInBounds_toArray, List.set_cons_zero, List.set_cons_succ]
            refine wpAnyH_all (rs := [3, 5]) (by kernel_rfl) (by simp) ?_
            intro i hi
            simp only [List.mem_cons, List.not_mem_nil, or_false] at hi
            rcases hi with rfl | rfl
            · refine wpOp_of rfl rfl (wp_computed rfl rfl (hgd _ _ _) (ha _) ?_)
              refine ⟨KS2, ?_⟩
              simp only [Act.put, List.setIfInBounds_toArray, List.set_cons_zero, List.set_cons_succ]
              refine wpAnyH_all (rs := [5]) (by kernel_rfl) (by simp) ?_
              intro i hi
              simp only [List.mem_cons, List.not_mem_nil, or_false] at hi
              subst hi
              refine wpOp_of rfl rfl (wp_extracted rfl rfl ?_)
              refine ⟨KS2, ?_⟩
              simp only [Act.put, List.setIfInBounds_toArray, List.set_cons_zero, List.set_cons_succ]
              refine wpAnyH_all (rs := [6]) (by kernel_rfl) (by simp) ?_
              intro i hi
              simp only [List.mem_cons, List.not_mem_nil, or_false] at hi
              subst hi
              refine wpOp_of rfl rfl (wp_estored rfl rfl rfl hs2 ?_)
              refine ⟨KS3, ?_⟩
              refine wpAnyH_done (by kernel_rfl) ?_ _
              go_wp2_with fail
              go_meet
              exact ⟨rfl, rfl⟩
            · refine wpOp_of rfl rfl (wp_extracted rfl rfl ?_)
              refine ⟨KS2, ?_⟩
              simp only [Act.put, List.setIfInBounds_toArray, List.set_cons_zero, List.set_cons_succ]
              refine wpAnyH_all (rs := [3]) (by kernel_rfl) (by simp) ?_
              intro i hi
              simp only [List.mem_cons, List.not_mem_nil, or_false] at hi
              subst hi
              refine wpOp_of rfl rfl (wp_computed rfl rfl (hgd _ _ _) (ha _) ?_)
              refine ⟨KS2, ?_⟩
              simp only [Act.put, List.setIfInBounds_toArray, List.set_cons_zero, List.set_cons_succ]
              refine wpAnyH_all (rs := [6]) (by kernel_rfl) (by simp) ?_
              intro i hi
              simp only [List.mem_cons, List.not_mem_nil, or_false] at hi
              subst hi
              refine wpOp_of rfl rfl (wp_estored rfl rfl rfl hs2 ?_)
              refine ⟨KS3, ?_⟩
              refine wpAnyH_done (by kernel_rfl) ?_ _
              go_wp2_with fail
              go_meet
              exact ⟨rfl, rfl⟩
        · refine wpOp_of rfl rfl (wp_entered rfl rfl he1 ?_)
          refine ⟨KS2, ?_⟩
          simp only [Act.put, List.setIfInBounds_toArray, List.set_cons_zero, List.set_cons_succ]
          refine wpAnyH_all (rs := [2, 5]) (by kernel_rfl) (by simp) ?_
          intro i hi
          simp only [List.mem_cons, List.not_mem_nil, or_false] at hi
          rcases hi with rfl | rfl
          · refine wpOp_of rfl rfl (wp_looked rfl rfl hl2 ?_)
            refine ⟨KS2, ?_⟩
            simp only [Act.put, List.setIfInBounds_toArray, List.set_cons_zero, List.set_cons_succ]
            refine wpAnyH_all (rs := [3, 5]) (by kernel_rfl) (by simp) ?_
            intro i hi
            simp only [List.mem_cons, List.not_mem_nil, or_false] at hi
            rcases hi with rfl | rfl
            · refine wpOp_of rfl rfl (wp_computed rfl rfl (hgd _ _ _) (ha _) ?_)
              refine ⟨KS2, ?_⟩
              simp only [Act.put, List.setIfInBounds_toArray, List.set_cons_zero, List.set_cons_succ]
              refine wpAnyH_all (rs := [5]) (by kernel_rfl) (by simp) ?_
              intro i hi
              simp only [List.mem_cons, List.not_mem_nil, or_false] at hi
              subst hi
              refine wpOp_of rfl rfl (wp_extracted rfl rfl ?_)
              refine ⟨KS2, ?_⟩
              simp only [Act.put, List.setIfInBounds_toArray, List.set_cons_zero, List.set_cons_succ]
              refine wpAnyH_all (rs := [6]) (by kernel_rfl) (by simp) ?_
              intro i hi
              simp only [List.mem_cons, List.not_mem_nil, or_false] at hi
              subst hi
              refine wpOp_of rfl rfl (wp_estored rfl rfl rfl hs2 ?_)
              refine ⟨KS3, ?_⟩
              refine wpAnyH_done (by kernel_rfl) ?_ _
              go_wp2_with fail
              go_meet
              exact ⟨rfl, rfl⟩
            · refine wpOp_of rfl rfl (wp_extracted rfl rfl ?_)
              refine ⟨KS2, ?_⟩
              simp only [Act.put, List.setIfInBounds_toArray, List.set_cons_zero, List.set_cons_succ]
              refine wpAnyH_all (rs := [3]) (by kernel_rfl) (by simp) ?_
              intro i hi
              simp only [List.mem_cons, List.not_mem_nil, or_false] at hi
              subst hi
              refine wpOp_of rfl rfl (wp_computed rfl rfl (hgd _ _ _) (ha _) ?_)
              refine ⟨KS2, ?_⟩
              simp only [Act.put, List.setIfInBounds_toArray, List.set_cons_zero, List.set_cons_succ]
              refine wpAnyH_all (rs := [6]) (by kernel_rfl) (by simp) ?_
              intro i hi
              simp only [List.mem_cons, List.not_mem_nil, or_false] at hi
              subst hi
              refine wpOp_of rfl rfl (wp_estored rfl rfl rfl hs2 ?_)
              refine ⟨KS3, ?_⟩
              refine wpAnyH_done (by kernel_rfl) ?_ _
              go_wp2_with fail
              go_meet
              exact ⟨rfl, rfl⟩
          · refine wpOp_of rfl rfl (wp_extracted rfl rfl ?_)
            refine ⟨KS2, ?_⟩
            simp only [Act.put, List.setIfInBounds_toArray, List.set_cons_zero, List.set_cons_succ]
            refine wpAnyH_all (rs := [2]) (by kernel_rfl) (by simp) ?_
            intro i hi
            simp only [List.mem_cons, List.not_mem_nil, or_false] at hi
            subst hi
            refine wpOp_of rfl rfl (wp_looked rfl rfl hl2 ?_)
            refine ⟨KS2, ?_⟩
            simp only [Act.put, List.setIfInBounds_toArray, List.set_cons_zero, List.set_cons_succ]
            refine wpAnyH_all (rs := [3]) (by kernel_rfl) (by simp) ?_
            intro i hi
            simp only [List.mem_cons, List.not_mem_nil, or_false] at hi
            subst hi
            refine wpOp_of rfl rfl (wp_computed rfl rfl (hgd _ _ _) (ha _) ?_)
            refine ⟨KS2, ?_⟩
            simp only [Act.put, List.setIfInBounds_toArray, List.set_cons_zero, List.set_cons_succ]
            refine wpAnyH_all (rs := [6]) (by kernel_rfl) (by simp) ?_
            intro i hi
            simp only [List.mem_cons, List.not_mem_nil, or_false] at hi
            subst hi
            refine wpOp_of rfl rfl (wp_estored rfl rfl rfl hs2 ?_)
            refine ⟨KS3, ?_⟩
            refine wpAnyH_done (by kernel_rfl) ?_ _
            go_wp2_with fail
            go_meet
            exact ⟨rfl, rfl⟩
      case rest =>
        obtain ⟨rfl, rfl⟩ := hcut
        have K3 := Lib.hid KS3
        clear KS1 KS2 KS3 hl1 hl2 he1 hs2 ha hgd K1
        rcases ZZ.out with ⟨hnew, rfl⟩ | ⟨hold, hz2⟩
        · have U1 : Hid (us ++ [x] = uniqV (L.take (k + 1))) := by rw [Hid, P1.out]; unfold addV; rw [if_neg hnew]
          have F1 : Hid (l'.map (·.1) = (us ++ [x]).map (fun v => Value.agg (encV v).toArray)) := by
            have := F1.out; unfold addV at this; rwa [if_neg hnew] at this
          have hw3 := Nat.succ_le_of_lt MAP.out.lt
          clear ZZ hnew P1
          go_wp2_with (first
            | (refine wpList_load_row rfl 36 _ (by rfl) g (by rfl) _ _ _ _ K3.out underVid rfl infoVid ?_)
            | (refine wpList_looked (by rfl) (by rfl) hl3 ?_)
            | (refine wpList_lit1 vidSl (encV_len x) (by omega) (by rfl) ?_)
            | (at_builtin; refine wpList_push vidSl OO.out (encV x) rfl (encV_one x) hw3 (by omega) (by unfold maxLen; omega) (by rfl) (by rfl) (by rfl) ?_; intro v1 w4 own1 bel1))
          have B6 := Lib.hid (BB.out.trans (bel1.mono (Nat.le_succ _)))
          have M6 := Lib.hid (MAP.out.below bel1 (Nat.lt_succ_self _))
          have O6 : Hid (w4.ownsRow (w.heap.size + 1) 36 3 v1 (us ++ [x]).length ((us ++ [x]).flatMap encV)) := by
            rw [Hid, flat_snocV, List.length_append]; exact own1
          clear own1 bel1 OO BB MAP
          go_roundw
          case rel => exact ⟨k + 1, l', us ++ [x], by omega, by simp; omega, by go_num, U1.out, F1.out, F2.out, M6.out, O6.out, B6.out⟩
          case measure => simp [intOf]; omega
        · have U1 : Hid (us = uniqV (L.take (k + 1))) := by rw [Hid, P1.out]; unfold addV; rw [if_pos hold]
          have F1 : Hid (l'.map (·.1) = us.map (fun v => Value.agg (encV v).toArray)) := by
            have := F1.out; unfold addV at this; rwa [if_pos hold] at this
          have d1 : (z + 1 == 1) = false := beq_eq_false_iff_ne.2 (by omega)
          have d2 : (z == 0) = false := beq_eq_false_iff_ne.2 (by omega)
          clear ZZ hold P1
          go_wp2_with (first
            | (refine wpList_load_row rfl 36 _ (by rfl) g (by rfl) _ _ _ _ K3.out underVid rfl infoVid ?_)
            | (refine wpList_looked (by rfl) (by rfl) hl3 ?_))
          go_roundw
          case rel => exact ⟨k + 1, l', us, by omega, by omega, by go_num, U1.out, F1.out, F2.out, MAP.out, OO.out, BB.out⟩
          case measure => simp [intOf]; omega
    · have hkn : k = n := by omega
      subst hkn
      have E := US.out
      rw [List.take_of_length_le (by rw [H.out.len]; exact Nat.le_refl _)] at E
      subst E
      have HS := Lib.hid (sortV (uniqV L) wr (w.heap.size + 1) (uniqV L).length _ rfl (by omega) O.out)
      clear US KS VS M
      go_wp2_with fail
      refine HS.out.mono ?_
      rintro e w2 ⟨rfl, b2, d, hp, hs, o2⟩
      have B2 := Lib.hid (B.out.trans (b2.mono (by omega)))
      have E := sorted_set hp hs
      subst E
      have hlen := hp.length_eq
      rw [← hlen] at o2
      have O2 := Lib.hid (own_mono' o2 (Nat.le_succ w.heap.size))
      clear b2 hp hs o2 HS hlen
      obtain ⟨A2, c2, rfl, _, _⟩ := Sl.of_own O2.out
      go_wp2
      go_ret
      exact ⟨_, rfl, O2.out, B2.out⟩
end Go.Proofs.YtmfdggolnfoniaaDoor
