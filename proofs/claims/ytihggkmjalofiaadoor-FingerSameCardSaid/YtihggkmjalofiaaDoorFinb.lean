/- How many fingerprints there are. -/
import Derived.Test.YtihggkmjalofiaaDoorFina
import Derived.Test.YtihggkmjalofiaaDoorGen
import Derived.Test.YtihggkmjalofiaaDoorPats
import Derived.Test.YtihggkmjalofiaaDoorPaws
import Derived.Test.YtihggkmjalofiaaDoorIdxw
import Derived.WideKeyEntry
import Derived.DeepKeys4
namespace Go.Proofs.YtihggkmjalofiaaDoor
open Go.RowKit
open Go.MapKept
open Go.ChangeMaps (setBlock)

theorem kLawF : Go.WideMaps.KeyLaw Tryd.prog 25 := deep_law_laid (by kernel_rfl) (m := 4) (by omega) (of_decide_eq_true (by kernel_rfl)) (by kernel_rfl) (by kernel_rfl)
theorem kMapF : Tryd.prog.underlying 50 = some (.map 25 3) := by kernel_rfl
theorem kZeroF (u : World) : (zeroValue 3).run Tryd.prog u = .ok (.int .i64 0) u := by kernel_rfl
theorem makeF (w : World) : (Instr.makeMap 50 none).run Tryd.prog w = .ok (.map (some w.heap.size)) (w.alloc (.map #[] 0)) := by kernel_rfl
/-- a fingerprint as a map's key -/
def keyF (b : List UInt8) : Value := .agg (bytesS b)
theorem encB_injF : ∀ (a b : List UInt8), encB a = encB b → a = b
  | [], [], _ => rfl
  | [], _ :: _, h => by unfold encB enc1 at h; simp at h
  | _ :: _, [], h => by unfold encB enc1 at h; simp at h
  | x :: xs, y :: ys, h => by
    unfold encB enc1 at h
    simp only [List.flatMap_cons, List.singleton_append, List.cons.injEq, Value.int.injEq, true_and] at h
    have := encB_injF xs ys h.2
    have hxy : x = y := UInt8.toNat_inj.1 (by have := h.1; omega)
    rw [this, hxy]
theorem keyF_inj (a b : List UInt8) (h : keyF a = keyF b) : a = b := by
  unfold keyF bytesS at h
  injection h with h
  exact encB_injF a b (congrArg Array.toList h)
theorem flatF : ∀ b : List UInt8, FlatOk (List.replicate b.length (.int .u8)) (encB b)
  | [] => trivial
  | x :: xs => ⟨⟨_, rfl, by have := x.toNat_lt; simp [Lit.wf, IntKind.min, IntKind.max, IntKind.signed, IntKind.bits]; omega⟩, flatF xs⟩
theorem kKeyF (b : List UInt8) (hb : b.length = 32) : ∃ kl, keyOf Tryd.prog 25 (keyF b) = some kl := by
  have := flatF b
  rw [hb] at this
  exact keyOf_flat (ks := List.replicate 32 (.int .u8)) (by kernel_rfl) (by kernel_rfl) (by kernel_rfl) (by kernel_rfl) (of_decide_eq_true (by kernel_rfl)) this
theorem exLenMapF {P : Program} {ρ : Operand → Value} {w : World} {d : Option Tmp} {ty t : TypeId} {pos : String} {after : Array Edge} {gd : Option (Nat × Bool)} {x : Operand} {mv v : Value} (hx : ρ x = mv) (hr : (Builtin.len_ #[t] ty #[mv]).run P w = .ok v w) : (execOp ρ ⟨d, .call { callee := .builtin .len, args := #[x], argTypes := #[t] }, ty, pos, after, gd⟩).run P w = .ok (.value v) w := by
  simp [execOp, resolve, invoke, builtin, hx, hr, Result.andThen]
/-- how often a fingerprint was seen -/
structure SeenF (w : World) (gs : Nat) (N : List (List UInt8)) (E : List (Value × Value)) : Prop where
  map : MapIs Tryd.prog 25 w gs E
  keys : E.map (·.1) = (uniqU N).map keyF
  vals : ∀ e ∈ E, ∃ z : Int, e.2 = .int .i64 z ∧ 1 ≤ z ∧ z ≤ (N.length : Int)
theorem SeenF.ext {w w' : World} {gs : Nat} {N : List (List UInt8)} {E : List (Value × Value)} (h : SeenF w gs N E) (hb : Below w.heap.size w w') : SeenF w' gs N E := ⟨h.map.ext hb, h.keys, h.vals⟩
theorem patC_allF (id : PidV) (A : Option Addr) (n c : Nat) (A' : Option Addr) (n' c' : Nat) : ((patC id A n c A' n' c').toArray).all (·.oneCell') = true := by simp [patC, Value.oneCell']
set_option maxRecDepth 100000 in
set_option maxHeartbeats 8000000 in
theorem unlike47_any (l : List PatV) (w : World) (A : Option Addr) (n c : Nat) (h : PatsAt w A n l) (hn : l.length = n) (hm : n ≤ 100) (hK : ShaK w) (hB : ShaB w) :
    Calls Tryd.prog 8 #[.slice A n c] w (RetB w (.int .i64 ((uniqU (l.map fpB)).length : Int))) := by
  have H := Lib.hid h
  have HL := Lib.hid hn
  have HK := Lib.hid hK
  have HB := Lib.hid hB
  clear h hn hK hB
  have hmk := makeF
  go_enter Tryd.func8, Tryd.ntmps8
  go_wp2_with fail
  clear hmk
  have M0 : Hid (SeenF (w.alloc (.map #[] 0)) w.heap.size [] []) := ⟨MapIs.made _ _ _, rfl, by simp⟩
  have B0 : Hid (Below w.heap.size w (w.alloc (.map #[] 0))) := (Below.refl _ _).alloc (Nat.le_refl _) _
  generalize (w.alloc (.map #[] 0)) = w0 at *
  obtain ⟨gs, hgs⟩ : ∃ gs, gs = w.heap.size := ⟨_, rfl⟩
  rw [← hgs] at M0 ⊢
  replace hgs := Lib.hid hgs
  go_loopw [9] (fun i wr => ∃ (k : Nat), k ≤ n ∧ i = .int .i64 k ∧ Hid (∃ E, SeenF wr gs ((l.take k).map fpB) E) ∧ Hid (Below w.heap.size w wr)) (fun i _ => n - (intOf i).toNat)
  case atStart => exact ⟨0, by omega, rfl, ⟨[], M0.out⟩, B0.out⟩
  case round =>
    clear M0 B0
    obtain ⟨k, hk, rfl, ⟨E, SE⟩, B⟩ := hrel
    replace SE := Lib.hid SE
    by_cases hlt : k < n
    · have hlk : (k : Int) < (n : Int) := by omega
      have hk0 : (0 : Int) ≤ (k : Int) := by omega
      obtain ⟨b, o, x, r, rfl, hb, hx, pa, hr⟩ := H.out.at_ hlt
      have NX : Hid ((l.take (k + 1)).map fpB = (l.take k).map fpB ++ [fpB x]) := by rw [Hid, List.take_add_one, hx]; simp
      have NL : Hid (((l.take k).map fpB).length = k) := by have := HL.out; rw [Hid, List.length_map, List.length_take]; omega
      have PA0 := Lib.hid pa
      obtain ⟨⟨A1, c1, A2, c2, rfl, _, _⟩, _, _⟩ := pa
      have R := Lib.hid (rangeAt_below hr B.out hb)
      have KZ : Hid (Blk (wr.alloc (.cells #[.int .u8 0, .int .u16 0, .slice none 0 0, .slice none 0 0] 33)) wr.heap.size 33 #[.int .u8 0, .int .u16 0, .slice none 0 0, .slice none 0 0]) := Blk.new _ _ _
      have KN : Hid (Blk ((wr.alloc (.cells #[.int .u8 0, .int .u16 0, .slice none 0 0, .slice none 0 0] 33)).setRow wr.heap.size (patC x.1 A1 x.2.1.length c1 A2 x.2.2.length c2).toArray) wr.heap.size 33 (patC x.1 A1 x.2.1.length c1 A2 x.2.2.length c2).toArray) := KZ.out.row _
      have BN : Hid (Below wr.heap.size wr ((wr.alloc (.cells #[.int .u8 0, .int .u16 0, .slice none 0 0, .slice none 0 0] 33)).setRow wr.heap.size (patC x.1 A1 x.2.1.length c1 A2 x.2.2.length c2).toArray)) := below_setRow (below_new wr _) (Nat.le_refl _) _
      have SE3 := Lib.hid (SE.out.ext BN.out)
      have BB3 := Lib.hid (B.out.trans (BN.out.mono B.out.size))
      have PA3 := Lib.hid (PA0.out.ext BB3.out)
      have HK3 := Lib.hid (shaK_ext HK.out BB3.out)
      have HB3 := Lib.hid (shaB_ext HB.out BB3.out)
      have hgg : Hid (gs < wr.heap.size) := SE.out.map.lt
      clear hr hx hb PA0
      go_upto_region 5 with (first
        | (refine wpList_load_mid rfl 33 _ (by rfl) b (o + k * 4) (by rfl) _ _ R.out underPat rfl infoPat ?_)
        | (refine wpList_alloced (allocPat _) ?_)
        | (refine wpList_store_row rfl 33 _ _ (by rfl) wr.heap.size (patC x.1 A1 x.2.1.length c1 A2 x.2.2.length c2).toArray (by rfl) (by rfl) _ _ KZ.out infoPat rfl (patC_allF ..) ?_))
      generalize ((wr.alloc (.cells #[.int .u8 0, .int .u16 0, .slice none 0 0, .slice none 0 0] 33)).setRow wr.heap.size (patC x.1 A1 x.2.1.length c1 A2 x.2.2.length c2).toArray) = w3 at *
      clear KZ BN R SE B
      obtain ⟨gp, hgp⟩ : ∃ gp, gp = wr.heap.size := ⟨_, rfl⟩
      rw [← hgp] at KN hgg ⊢
      clear hgp
      generalize (l.take k).map fpB = N at *
      try go_frame
      · skip
        refine wp_region_held (S := fun w' => Blk w' gp 33 (patC x.1 A1 x.2.1.length c1 A2 x.2.2.length c2).toArray) mixedS ?_
        change wpAnyH _ _ _ _ _ _ _ _ w3.drew
        have KD : Hid (Blk w3.drew gp 33 (patC x.1 A1 x.2.1.length c1 A2 x.2.2.length c2).toArray) := KN.out
        have SED : Hid (SeenF w3.drew gs N E) := ⟨SE3.out.map, SE3.out.keys, SE3.out.vals⟩
        have BD : Hid (Below w.heap.size w w3.drew) := BB3.out.drew
        have PAD := Lib.hid (PA3.out.ext (Below.refl w3.heap.size w3).drew)
        have HKD := Lib.hid (shaK_ext HK3.out (Below.refl w3.heap.size w3).drew)
        have HBD := Lib.hid (shaB_ext HB3.out (Below.refl w3.heap.size w3).drew)
        generalize w3.drew = wd at *
        clear KN SE3 BB3 PA3 HK3 HB3
        simp only [List.size_toArray, List.length_cons, List.length_nil]
        refine takeV (i := 0) (d := 13) (v := .map (some gs)) rfl (by kernel_rfl) (by kernel_rfl) (by kernel_rfl) (fun _ _ _ h => h) rfl (fun _ _ => exMove (v := .map (some gs)) rfl) KD.out ?_
        simp only [Act.put, List.setIfInBounds_toArray, List.set_cons_zero, List.set_cons_succ]
        refine takeV (i := 1) (d := 14) (v := .agg (patC x.1 A1 x.2.1.length c1 A2 x.2.2.length c2).toArray) rfl (by kernel_rfl) (by kernel_rfl) (by kernel_rfl) (fun _ _ _ h => h) rfl (fun w' h => exRow_sh rfl h underPat rfl infoPat) KD.out ?_
        simp only [Act.put, List.setIfInBounds_toArray, List.set_cons_zero, List.set_cons_succ]
        refine wpAnyH_all (rs := [2]) (by kernel_rfl) (by simp) ?_
        intro i hi
        simp only [List.mem_cons, List.not_mem_nil, or_false] at hi
        subst hi
        refine wpOp_of rfl rfl (wp_called (args := #[.agg (patC x.1 A1 x.2.1.length c1 A2 x.2.2.length c2).toArray]) (enters_of Tryd.func6 (by kernel_rfl) rfl) (by simp only [List.map_toArray, List.map_cons, List.map_nil]; rfl) (fpatch_any x wd _ PAD.out HKD.out HBD.out) ?_)
        rintro _ wc ⟨rfl, bc⟩
        refine ⟨_, rfl, ?_⟩
        have KC := Lib.hid (KD.out.ext bc)
        have SEC := Lib.hid (SED.out.ext bc)
        have BC := Lib.hid (BD.out.trans (bc.mono BD.out.size))
        clear bc KD SED BD PAD HKD HBD
        obtain ⟨kl, hkey⟩ := kKeyF (fpB x) (fpB_len x)
        have hlen : E.length ≤ 100 := by
          have h1 := congrArg List.length SEC.out.keys
          rw [List.length_map, List.length_map] at h1
          have := uniqU_len N
          have := NL.out
          omega
        obtain ⟨c0, st, o1, hget, hlook, hentry, hlook2, hstore⟩ := SEC.out.map.entry kLawF kMapF kZeroF (by unfold maxLen; omega) hkey
        have hc0 := uniqNew keyF_inj (x := fpB x) SEC.out.keys hget
        have hz : ∃ z : Int, c0 = .int .i64 z ∧ 0 ≤ z ∧ z ≤ (N.length : Int) := by
          rcases hc0 with ⟨h1, rfl⟩ | ⟨h1, h2⟩
          · exact ⟨0, rfl, by omega, by omega⟩
          · obtain ⟨z, hz, h3, h4⟩ := SEC.out.vals _ h2
            exact ⟨z, hz, by omega, h4⟩
        obtain ⟨z, rfl, hz0, hz1⟩ := hz
        rw [NL.out] at hz1
        obtain ⟨o2, l', hst, hput, hmap⟩ := hstore (.int .i64 (z + 1))
        have PUT := Lib.hid hput
        have hlt1 : gs < wc.heap.size := SEC.out.map.lt
        have hl1 := Lib.hid (hlook wc rfl)
        have he1 := Lib.hid (hentry wc rfl)
        have hw2 : (setBlock wc gs o1).heap[gs]? = some o1 := setBlock_heap hlt1
        have hl2 := Lib.hid (hlook2 _ hw2)
        have hs2 := Lib.hid (hst _ hw2)
        have MAP := Lib.hid (hmap (setBlock wc gs o1) (by simpa [setBlock] using hlt1))
        have BB5 : Hid (Below w.heap.size w (setBlock (setBlock wc gs o1) gs o2)) := setBlock_below (setBlock_below BC.out (by rw [hgs.out]; exact Nat.le_refl _) _) (by rw [hgs.out]; exact Nat.le_refl _) _
        have ha : ∀ u : World, (binOp .add 3 (.int .i64 z) (.int .i64 1)).run Tryd.prog u = .ok (.int .i64 (z + 1)) u := fun u => by
          have e : IntKind.i64.wrap (z + 1) = z + 1 := IntWalk.i64_in _ (by omega)
          simp [go_sem, e]
        have hg' : ∀ (u : World) (x y : Operand), (eqGuard .add 3 x y (.int .i64 z) (.int .i64 1)).run Tryd.prog u = .ok () u := fun u x y => by simp [eqGuard]
        have hgne : gp ≠ gs := by have := hgg.out; omega
        have KS1 := KC
        have KS2 : Hid (Blk (setBlock wc gs o1) gp 33 (patC x.1 A1 x.2.1.length c1 A2 x.2.2.length c2).toArray) := Blk.setBlock KC.out hgne _
        have KS3 : Hid (Blk (setBlock (setBlock wc gs o1) gs o2) gp 33 (patC x.1 A1 x.2.1.length c1 A2 x.2.2.length c2).toArray) := Blk.setBlock (Blk.setBlock KC.out hgne _) hgne _
        have F1 := uniqKeep keyF_inj SEC.out.keys (fpB x) PUT.out
        have SE5 : Hid (SeenF (setBlock (setBlock wc gs o1) gs o2) gs (N ++ [fpB x]) l') := by
          refine ⟨MAP.out, ?_, fun q hq => ?_⟩
          · rw [F1]
            unfold uniqU
            rw [List.foldl_append]; rfl
          · rw [List.length_append, List.length_singleton, NL.out]
            have V : ∀ p ∈ E, ∃ z : Int, p.2 = .int .i64 z ∧ 1 ≤ z ∧ z ≤ (k : Int) := fun p hp => by
              obtain ⟨y, h1, h2, h3⟩ := SEC.out.vals p hp
              exact ⟨y, h1, h2, by rw [NL.out] at h3; exact h3⟩
            rcases PUT.out with ⟨_, rfl⟩ | ⟨j, v0, _, rfl⟩
            · rcases List.mem_append.1 hq with hq | hq
              · obtain ⟨y, h1, h2, h3⟩ := V q hq; exact ⟨y, h1, h2, by omega⟩
              · rw [List.mem_singleton] at hq; subst hq; exact ⟨z + 1, rfl, by omega, by omega⟩
            · rcases List.mem_or_eq_of_mem_set hq with hq | rfl
              · obtain ⟨y, h1, h2, h3⟩ := V q hq; exact ⟨y, h1, h2, by omega⟩
              · exact ⟨z + 1, rfl, by omega, by omega⟩
        clear hstore hget hput hmap hkey hlook hentry hlook2 hst hw2 PUT hc0 F1 SEC KC MAP
        refine ⟨KS1.out, ?_⟩
        simp only [Act.put, List.setIfInBounds_toArray, List.set_cons_zero, List.set_cons_succ]
        change wpAnyH _ _ _ _ _ _ _ _ wc
        generalize (setBlock wc gs o1) = w4 at *
        generalize (setBlock w4 gs o2) = w5 at *
        refine wpAnyH_all (rs := [3, 5]) (by kernel_rfl) (by simp) ?_
        intro i hi
        simp only [List.mem_cons, List.not_mem_nil, or_false] at hi
        rcases hi with rfl | rfl
        · refine wpOp_of rfl rfl (wp_looked rfl rfl hl1.out ?_)
          refine ⟨KS1.out, ?_⟩
          simp only [Act.put, List.setIfInBounds_toArray, List.set_cons_zero, List.set_cons_succ]
          refine wpAnyH_all (rs := [4, 5]) (by kernel_rfl) (by simp) ?_
          intro i hi
          simp only [List.mem_cons, List.not_mem_nil, or_false] at hi
          rcases hi with rfl | rfl
          · refine wpOp_of rfl rfl (wp_computed rfl rfl (hg' _ _ _) (ha _) ?_)
            refine ⟨KS1.out, ?_⟩
            simp only [Act.put, List.setIfInBounds_toArray, List.set_cons_zero, List.set_cons_succ]
            refine wpAnyH_all (rs := [5]) (by kernel_rfl) (by simp) ?_
            intro i hi
            simp only [List.mem_cons, List.not_mem_nil, or_false] at hi
            subst hi
            refine wpOp_of rfl rfl (wp_entered rfl rfl he1.out ?_)
            refine ⟨KS2.out, ?_⟩
            simp only [Act.put, List.setIfInBounds_toArray, List.set_cons_zero, List.set_cons_succ]
            refine wpAnyH_all (rs := [6]) (by kernel_rfl) (by simp) ?_
            intro i hi
            simp only [List.mem_cons, List.not_mem_nil, or_false] at hi
            subst hi
            refine wpOp_of rfl rfl (wp_extracted rfl rfl ?_)
            refine ⟨KS2.out, ?_⟩
            simp only [Act.put, List.setIfInBounds_toArray, List.set_cons_zero, List.set_cons_succ]
            refine wpAnyH_all (rs := [7]) (by kernel_rfl) (by simp) ?_
            intro i hi
            simp only [List.mem_cons, List.not_mem_nil, or_false] at hi
            subst hi
            refine wpOp_of rfl rfl (wp_estored rfl rfl rfl hs2.out ?_)
            refine ⟨KS3.out, ?_⟩
            refine wpAnyH_done (by kernel_rfl) ?_ _
            go_wp2_with fail
            go_roundw
            case rel => exact ⟨k + 1, by omega, by go_num, ⟨_, by rw [NX.out]; exact SE5.out⟩, BB5.out⟩
            case measure => simp [intOf]; omega
          · refine wpOp_of rfl rfl (wp_entered rfl rfl he1.out ?_)
            refine ⟨KS2.out, ?_⟩
            simp only [Act.put, List.setIfInBounds_toArray, List.set_cons_zero, List.set_cons_succ]
            refine wpAnyH_all (rs := [4, 6]) (by kernel_rfl) (by simp) ?_
            intro i hi
            simp only [List.mem_cons, List.not_mem_nil, or_false] at hi
            rcases hi with rfl | rfl
            · refine wpOp_of rfl rfl (wp_computed rfl rfl (hg' _ _ _) (ha _) ?_)
              refine ⟨KS2.out, ?_⟩
              simp only [Act.put, List.setIfInBounds_toArray, List.set_cons_zero, List.set_cons_succ]
              refine wpAnyH_all (rs := [6]) (by kernel_rfl) (by simp) ?_
              intro i hi
              simp only [List.mem_cons, List.not_mem_nil, or_false] at hi
              subst hi
              refine wpOp_of rfl rfl (wp_extracted rfl rfl ?_)
              refine ⟨KS2.out, ?_⟩
              simp only [Act.put, List.setIfInBounds_toArray, List.set_cons_zero, List.set_cons_succ]
              refine wpAnyH_all (rs := [7]) (by kernel_rfl) (by simp) ?_
              intro i hi
              simp only [List.mem_cons, List.not_mem_nil, or_false] at hi
              subst hi
              refine wpOp_of rfl rfl (wp_estored rfl rfl rfl hs2.out ?_)
              refine ⟨KS3.out, ?_⟩
              refine wpAnyH_done (by kernel_rfl) ?_ _
              go_wp2_with fail
              go_roundw
              case rel => exact ⟨k + 1, by omega, by go_num, ⟨_, by rw [NX.out]; exact SE5.out⟩, BB5.out⟩
              case measure => simp [intOf]; omega
            · refine wpOp_of rfl rfl (wp_extracted rfl rfl ?_)
              refine ⟨KS2.out, ?_⟩
              simp only [Act.put, List.setIfInBounds_toArray, List.set_cons_zero, List.set_cons_succ]
              refine wpAnyH_all (rs := [4]) (by kernel_rfl) (by simp) ?_
              intro i hi
              simp only [List.mem_cons, List.not_mem_nil, or_false] at hi
              subst hi
              refine wpOp_of rfl rfl (wp_computed rfl rfl (hg' _ _ _) (ha _) ?_)
              refine ⟨KS2.out, ?_⟩
              simp only [Act.put, List.setIfInBounds_toArray, List.set_cons_zero, List.set_cons_succ]
              refine wpAnyH_all (rs := [7]) (by kernel_rfl) (by simp) ?_
              intro i hi
              simp only [List.mem_cons, List.not_mem_nil, or_false] at hi
              subst hi
              refine wpOp_of rfl rfl (wp_estored rfl rfl rfl hs2.out ?_)
              refine ⟨KS3.out, ?_⟩
              refine wpAnyH_done (by kernel_rfl) ?_ _
              go_wp2_with fail
              go_roundw
              case rel => exact ⟨k + 1, by omega, by go_num, ⟨_, by rw [NX.out]; exact SE5.out⟩, BB5.out⟩
              case measure => simp [intOf]; omega
        · refine wpOp_of rfl rfl (wp_entered rfl rfl he1.out ?_)
          refine ⟨KS2.out, ?_⟩
          simp only [Act.put, List.setIfInBounds_toArray, List.set_cons_zero, List.set_cons_succ]
          refine wpAnyH_all (rs := [3, 6]) (by kernel_rfl) (by simp) ?_
          intro i hi
          simp only [List.mem_cons, List.not_mem_nil, or_false] at hi
          rcases hi with rfl | rfl
          · refine wpOp_of rfl rfl (wp_looked rfl rfl hl2.out ?_)
            refine ⟨KS2.out, ?_⟩
            simp only [Act.put, List.setIfInBounds_toArray, List.set_cons_zero, List.set_cons_succ]
            refine wpAnyH_all (rs := [4, 6]) (by kernel_rfl) (by simp) ?_
            intro i hi
            simp only [List.mem_cons, List.not_mem_nil, or_false] at hi
            rcases hi with rfl | rfl
            · refine wpOp_of rfl rfl (wp_computed rfl rfl (hg' _ _ _) (ha _) ?_)
              refine ⟨KS2.out, ?_⟩
              simp only [Act.put, List.setIfInBounds_toArray, List.set_cons_zero, List.set_cons_succ]
              refine wpAnyH_all (rs := [6]) (by kernel_rfl) (by simp) ?_
              intro i hi
              simp only [List.mem_cons, List.not_mem_nil, or_false] at hi
              subst hi
              refine wpOp_of rfl rfl (wp_extracted rfl rfl ?_)
              refine ⟨KS2.out, ?_⟩
              simp only [Act.put, List.setIfInBounds_toArray, List.set_cons_zero, List.set_cons_succ]
              refine wpAnyH_all (rs := [7]) (by kernel_rfl) (by simp) ?_
              intro i hi
              simp only [List.mem_cons, List.not_mem_nil, or_false] at hi
              subst hi
              refine wpOp_of rfl rfl (wp_estored rfl rfl rfl hs2.out ?_)
              refine ⟨KS3.out, ?_⟩
              refine wpAnyH_done (by kernel_rfl) ?_ _
              go_wp2_with fail
              go_roundw
              case rel => exact ⟨k + 1, by omega, by go_num, ⟨_, by rw [NX.out]; exact SE5.out⟩, BB5.out⟩
              case measure => simp [intOf]; omega
            · refine wpOp_of rfl rfl (wp_extracted rfl rfl ?_)
              refine ⟨KS2.out, ?_⟩
              simp only [Act.put, List.setIfInBounds_toArray, List.set_cons_zero, List.set_cons_succ]
              refine wpAnyH_all (rs := [4]) (by kernel_rfl) (by simp) ?_
              intro i hi
              simp only [List.mem_cons, List.not_mem_nil, or_false] at hi
              subst hi
              refine wpOp_of rfl rfl (wp_computed rfl rfl (hg' _ _ _) (ha _) ?_)
              refine ⟨KS2.out, ?_⟩
              simp only [Act.put, List.setIfInBounds_toArray, List.set_cons_zero, List.set_cons_succ]
              refine wpAnyH_all (rs := [7]) (by kernel_rfl) (by simp) ?_
              intro i hi
              simp only [List.mem_cons, List.not_mem_nil, or_false] at hi
              subst hi
              refine wpOp_of rfl rfl (wp_estored rfl rfl rfl hs2.out ?_)
              refine ⟨KS3.out, ?_⟩
              refine wpAnyH_done (by kernel_rfl) ?_ _
              go_wp2_with fail
              go_roundw
              case rel => exact ⟨k + 1, by omega, by go_num, ⟨_, by rw [NX.out]; exact SE5.out⟩, BB5.out⟩
              case measure => simp [intOf]; omega
          · refine wpOp_of rfl rfl (wp_extracted rfl rfl ?_)
            refine ⟨KS2.out, ?_⟩
            simp only [Act.put, List.setIfInBounds_toArray, List.set_cons_zero, List.set_cons_succ]
            refine wpAnyH_all (rs := [3]) (by kernel_rfl) (by simp) ?_
            intro i hi
            simp only [List.mem_cons, List.not_mem_nil, or_false] at hi
            subst hi
            refine wpOp_of rfl rfl (wp_looked rfl rfl hl2.out ?_)
            refine ⟨KS2.out, ?_⟩
            simp only [Act.put, List.setIfInBounds_toArray, List.set_cons_zero, List.set_cons_succ]
            refine wpAnyH_all (rs := [4]) (by kernel_rfl) (by simp) ?_
            intro i hi
            simp only [List.mem_cons, List.not_mem_nil, or_false] at hi
            subst hi
            refine wpOp_of rfl rfl (wp_computed rfl rfl (hg' _ _ _) (ha _) ?_)
            refine ⟨KS2.out, ?_⟩
            simp only [Act.put, List.setIfInBounds_toArray, List.set_cons_zero, List.set_cons_succ]
            refine wpAnyH_all (rs := [7]) (by kernel_rfl) (by simp) ?_
            intro i hi
            simp only [List.mem_cons, List.not_mem_nil, or_false] at hi
            subst hi
            refine wpOp_of rfl rfl (wp_estored rfl rfl rfl hs2.out ?_)
            refine ⟨KS3.out, ?_⟩
            refine wpAnyH_done (by kernel_rfl) ?_ _
            go_wp2_with fail
            go_roundw
            case rel => exact ⟨k + 1, by omega, by go_num, ⟨_, by rw [NX.out]; exact SE5.out⟩, BB5.out⟩
            case measure => simp [intOf]; omega
    · have hnl : ¬ (k : Int) < (n : Int) := by omega
      obtain rfl : k = n := by omega
      rw [List.take_of_length_le (by rw [HL.out]; exact Nat.le_refl _)] at SE
      have hLE := Lib.hid (show E.length = (uniqU (l.map fpB)).length by have := congrArg List.length SE.out.keys; rw [List.length_map, List.length_map] at this; exact this)
      go_upto_region 7 with fail
      refine wp_region_lit ?_
      refine wpL_val rfl (exMove (v := .map (some gs)) rfl) ?_
      simp only [Act.put, List.setIfInBounds_toArray, List.set_cons_zero, List.set_cons_succ]
      refine wpL_val rfl (exLenMapF rfl (SE.out.map.len kMapF)) ?_
      simp only [Act.put, List.setIfInBounds_toArray, List.set_cons_zero, List.set_cons_succ]
      refine wpL_val rfl (exAssign (v := .int .i64 (E.length : Int)) rfl) ?_
      simp only [Act.put, List.setIfInBounds_toArray, List.set_cons_zero, List.set_cons_succ]
      refine wpList_nil ?_
      go_wp2_with fail
      go_ret
      exact ⟨by rw [hLE.out]; rfl, B.out⟩
end Go.Proofs.YtihggkmjalofiaaDoor
