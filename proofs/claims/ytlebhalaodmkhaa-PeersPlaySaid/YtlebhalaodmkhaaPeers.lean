/- What the peers' functions return, as plain functions on numbers. -/
import Derived.Test.YtlebhalaodmkhaaBase
namespace Go.Proofs.Ytlebhalaodmkhaa
open Go.RowKit

/-- of a replica among so many: whether a number is a peer's; how many peers; who is drawn -/
def isP (self nodes n : Int) : Bool := decide (1 ≤ n ∧ n ≤ nodes ∧ n ≠ self)
def lenP (self nodes : Int) : Int := if 1 ≤ self ∧ self ≤ nodes then nodes - 1 else nodes
def drawP (self nodes x : Int) : Int := if lenP self nodes = 0 then 0 else if 1 ≤ self ∧ self ≤ x % lenP self nodes + 1 then x % lenP self nodes + 2 else x % lenP self nodes + 1

theorem isP_t {s m n : Int} (h : 1 ≤ n ∧ n ≤ m ∧ n ≠ s) : isP s m n = true := decide_eq_true h
theorem isP_f {s m n : Int} (h : ¬ (1 ≤ n ∧ n ≤ m ∧ n ≠ s)) : isP s m n = false := decide_eq_false h

set_option maxHeartbeats 400000 in
theorem is_any (b : Nat) (self nodes n : Int) (w : World) (h0 : w.cell? ⟨b, 0, none⟩ = some (.int .u8 self)) (h1 : w.cell? ⟨b, 1, none⟩ = some (.int .i64 nodes)) (hn : 0 ≤ n ∧ n < 256) :
    Calls Try.prog 21 #[.pointer (some ⟨b, 0, none⟩), .int .u8 n] w (Ret w (.bool (isP self nodes n))) := by
  obtain ⟨hn0, hn1⟩ := hn
  by_cases c1 : 1 ≤ n
  · by_cases c2 : n ≤ nodes
    · by_cases c3 : n = self
      · have F := Lib.hid (isP_f (s := self) (m := nodes) (n := n) (by omega))
        have c3' : (n != self) = false := by simp [c3]
        clear c3
        go_enter Try.func21, Try.ntmps21
        go_wp2
        go_ret
        exact ⟨ret_bool F.out.symm, rfl⟩
      · have F := Lib.hid (isP_t (s := self) (m := nodes) (n := n) ⟨c1, c2, c3⟩)
        have c3' : (n != self) = true := by simp [c3]
        clear c3
        go_enter Try.func21, Try.ntmps21
        go_wp2
        go_ret
        exact ⟨ret_bool F.out.symm, rfl⟩
    · have F := Lib.hid (isP_f (s := self) (m := nodes) (n := n) (by omega))
      go_enter Try.func21, Try.ntmps21
      go_wp2
      go_ret
      exact ⟨ret_bool F.out.symm, rfl⟩
  · have F := Lib.hid (isP_f (s := self) (m := nodes) (n := n) (by omega))
    go_enter Try.func21, Try.ntmps21
    go_wp2
    go_ret
    exact ⟨ret_bool F.out.symm, rfl⟩

set_option maxHeartbeats 400000 in
theorem is_nil (n : Int) (w : World) : Calls Try.prog 21 #[.pointer none, .int .u8 n] w (Ret w (.bool false)) := by
  go_enter Try.func21, Try.ntmps21
  go_wp2
  go_ret
  exact ⟨rfl, rfl⟩

set_option maxHeartbeats 400000 in
theorem len_any (b : Nat) (self nodes : Int) (w : World) (h0 : w.cell? ⟨b, 0, none⟩ = some (.int .u8 self)) (h1 : w.cell? ⟨b, 1, none⟩ = some (.int .i64 nodes)) (_hs : 0 ≤ self ∧ self < 256) (hn : 0 ≤ nodes ∧ nodes ≤ 64) :
    Calls Try.prog 19 #[.pointer (some ⟨b, 0, none⟩)] w (fun e w' => e = .returned (.int .i64 (lenP self nodes)) ∧ ∃ n, w' = w.drewN n) := by
  obtain ⟨hn0, hn1⟩ := hn
  by_cases c1 : 1 ≤ self
  · by_cases c2 : self ≤ nodes
    · have F : Hid (lenP self nodes = nodes - 1) := if_pos ⟨c1, c2⟩
      go_enter Try.func19, Try.ntmps19
      go_wp2
      go_quiet (fail)
      go_wp2
      go_ret
      exact ⟨ret_int F.out.symm, _, rfl⟩
    · have F : Hid (lenP self nodes = nodes) := if_neg (by omega)
      have hd : decide (self ≤ nodes) = false := decide_eq_false c2
      go_enter Try.func19, Try.ntmps19
      go_wp2
      go_quiet (fail)
      go_wp2
      go_ret
      exact ⟨ret_int F.out.symm, _, rfl⟩
  · have F : Hid (lenP self nodes = nodes) := if_neg (by omega)
    have hd : decide (1 ≤ self) = false := decide_eq_false c1
    go_enter Try.func19, Try.ntmps19
    go_wp2
    go_quiet (fail)
    go_wp2
    go_ret
    exact ⟨ret_int F.out.symm, _, rfl⟩

theorem lenP_bd {self nodes : Int} (hn : 0 ≤ nodes ∧ nodes ≤ 64) : 0 ≤ lenP self nodes ∧ lenP self nodes ≤ 64 := by
  unfold lenP; split <;> omega

set_option maxHeartbeats 400000 in
theorem draw_any (b : Nat) (self nodes x : Int) (w : World) (h0 : w.cell? ⟨b, 0, none⟩ = some (.int .u8 self)) (h1 : w.cell? ⟨b, 1, none⟩ = some (.int .i64 nodes)) (hs : 0 ≤ self ∧ self < 256) (hn : 0 ≤ nodes ∧ nodes ≤ 64)
    (hx : 0 ≤ x ∧ x ≤ 18446744073709551615) :
    Calls Try.prog 20 #[.pointer (some ⟨b, 0, none⟩), .int .u64 x] w (fun e w' => e = .returned (.int .u8 (drawP self nodes x)) ∧ ∃ n, w' = w.drewN n) := by
  have hl := lenP_bd (self := self) hn
  have HD : Hid (drawP self nodes x = if lenP self nodes = 0 then 0 else if 1 ≤ self ∧ self ≤ x % lenP self nodes + 1 then x % lenP self nodes + 2 else x % lenP self nodes + 1) := rfl
  have HC := Lib.hid (fun w0 (h0 : w0.cell? ⟨b, 0, none⟩ = some (.int .u8 self)) (h1 : w0.cell? ⟨b, 1, none⟩ = some (.int .i64 nodes)) => len_any b self nodes w0 h0 h1 hs hn)
  generalize lenP self nodes = l at *
  obtain ⟨hn0, hn1⟩ := hn
  obtain ⟨hs0, hs1⟩ := hs
  obtain ⟨hl0, hl1⟩ := hl
  obtain ⟨hx0, hx1⟩ := hx
  by_cases c0 : l = 0
  · have F : Hid (drawP self nodes x = 0) := by rw [Hid, HD.out, if_pos c0]
    have hd : (l == 0) = true := by simp [c0]
    clear c0 HD
    go_enter Try.func20, Try.ntmps20
    go_wp2_with fail
    refine (HC.out _ h0 h1).mono ?_
    rintro e w1 ⟨rfl, k, rfl⟩
    go_wp2_with fail
    go_ret
    exact ⟨ret_int F.out.symm, _, rfl⟩
  · have F : Hid (drawP self nodes x = if 1 ≤ self ∧ self ≤ x % l + 1 then x % l + 2 else x % l + 1) := by rw [Hid, HD.out, if_neg c0]
    have hd : (l == 0) = false := by simp [c0]
    have hl2 : 1 ≤ l := by omega
    have hm0 : 0 ≤ x % l := Int.emod_nonneg _ c0
    have hm1 : x % l < l := Int.emod_lt_of_pos _ (by omega)
    clear c0 HD
    by_cases c1 : 1 ≤ self
    · by_cases c2 : self ≤ x % l + 1
      · have G : Hid (drawP self nodes x = x % l + 2) := by rw [Hid, F.out, if_pos ⟨c1, c2⟩]
        go_enter Try.func20, Try.ntmps20
        go_wp2_with fail
        refine (HC.out _ h0 h1).mono ?_
        rintro e w1 ⟨rfl, k, rfl⟩
        go_wp2_with fail
        refine (HC.out _ (by simpa using h0) (by simpa using h1)).mono ?_
        rintro e w1 ⟨rfl, k2, rfl⟩
        go_wp2_with fail
        go_ret
        exact ⟨ret_int (by rw [G.out]; omega), _, rfl⟩
      · have G : Hid (drawP self nodes x = x % l + 1) := by rw [Hid, F.out, if_neg (by omega)]
        go_enter Try.func20, Try.ntmps20
        go_wp2_with fail
        refine (HC.out _ h0 h1).mono ?_
        rintro e w1 ⟨rfl, k, rfl⟩
        go_wp2_with fail
        refine (HC.out _ (by simpa using h0) (by simpa using h1)).mono ?_
        rintro e w1 ⟨rfl, k2, rfl⟩
        go_wp2_with fail
        go_ret
        exact ⟨ret_int G.out.symm, _, rfl⟩
    · have G : Hid (drawP self nodes x = x % l + 1) := by rw [Hid, F.out, if_neg (by omega)]
      go_enter Try.func20, Try.ntmps20
      go_wp2_with fail
      refine (HC.out _ h0 h1).mono ?_
      rintro e w1 ⟨rfl, k, rfl⟩
      go_wp2_with fail
      refine (HC.out _ (by simpa using h0) (by simpa using h1)).mono ?_
      rintro e w1 ⟨rfl, k2, rfl⟩
      go_wp2_with fail
      go_ret
      exact ⟨ret_int G.out.symm, _, rfl⟩

/-- the cells of the peers' object -/
def peerCells (self nodes pat : Int) (wait : List Int) : Array Value := (([.int .u8 self, .int .i64 nodes, .int .i64 pat] : List Value) ++ wait.map (Value.int .i64)).toArray

def clamp (n m : Int) : Int := if n < 0 then 0 else if m < n then m else n

theorem build_peers (s n p : Int) (w : World) : (Instr.build 63 #[(0, .int .u8 s), (1, .int .i64 n), (2, .int .i64 p)]).run Try.prog w = .ok (.agg (peerCells s n p (List.replicate 65 0))) w := by kernel_rfl

set_option maxHeartbeats 400000 in
theorem new_any (self nodes pat : Int) (w : World) :
    Calls Try.prog 18 #[.int .u8 self, .int .i64 nodes, .int .i64 pat] w (RetW (w.alloc (.cells (peerCells self (clamp nodes 64) (clamp pat 8) (List.replicate 65 0)) 63)) (.pointer (some ⟨w.heap.size, 0, none⟩))) := by
  have HC : Hid (∀ n m : Int, clamp n m = if n < 0 then 0 else if m < n then m else n) := fun _ _ => rfl
  by_cases c1 : nodes < 0 <;> by_cases c2 : 64 < nodes <;> by_cases c3 : pat < 0 <;> by_cases c4 : 8 < pat <;> first
    | (exfalso; omega)
    | (go_enter Try.func18, Try.ntmps18
       go_wp2_with (refine wpList_built (build_peers ?_ ?_ ?_ _) ?_ ?_; rotate_left 3; focus (simp only [List.map_toArray, List.map_cons, List.map_nil]; exact rfl))
       go_ret
       refine ⟨rfl, ?_⟩
       rw [HC.out, HC.out]
       repeat (first | rw [if_pos (by omega)] | rw [if_neg (by omega)]))

theorem clamp_bd (n m : Int) (h : 0 ≤ m) : 0 ≤ clamp n m ∧ clamp n m ≤ m := by unfold clamp; split <;> (try split) <;> omega

/-- block b is a peers' object -/
structure PeersAt (w : World) (b : Nat) (sf nodes pat : Int) (wait : List Int) : Prop where
  blk : w.heap[b]? = some (.cells (peerCells sf nodes pat wait) 63 (0, 0))
  hself : 0 ≤ sf ∧ sf < 256
  hnodes : 0 ≤ nodes ∧ nodes ≤ 64
  hpat : 0 ≤ pat ∧ pat ≤ 8
  len : wait.length = 65
  hwait : ∀ n ∈ wait, 0 ≤ n ∧ n ≤ 8

section
variable {w w' : World} {b : Nat} {sf nodes pat : Int} {wait : List Int}
theorem PeersAt.cell (h : PeersAt w b sf nodes pat wait) (i : Nat) : w.cell? ⟨b, i, none⟩ = (peerCells sf nodes pat wait)[i]? := by
  simp [World.cell?, h.blk]
theorem PeersAt.c0 (h : PeersAt w b sf nodes pat wait) : w.cell? ⟨b, 0, none⟩ = some (.int .u8 sf) := by rw [h.cell]; simp [peerCells]
theorem PeersAt.c1 (h : PeersAt w b sf nodes pat wait) : w.cell? ⟨b, 1, none⟩ = some (.int .i64 nodes) := by rw [h.cell]; simp [peerCells]
theorem PeersAt.c2 (h : PeersAt w b sf nodes pat wait) : w.cell? ⟨b, 2, none⟩ = some (.int .i64 pat) := by rw [h.cell]; simp [peerCells]
theorem PeersAt.cw (h : PeersAt w b sf nodes pat wait) (n : Nat) (hn : n < 65) : w.cell? ⟨b, 3 + n, none⟩ = some (.int .i64 (wait.getD n 0)) := by
  have hl : n < wait.length := by rw [h.len]; exact hn
  rw [h.cell]; simp [peerCells, hl, Nat.add_comm 3 n]
theorem PeersAt.fr (h : PeersAt w b sf nodes pat wait) (i : Nat) : w.frozen? ⟨b, i, none⟩ = false := by
  simp [World.frozen?, h.blk]
theorem PeersAt.drewN (h : PeersAt w b sf nodes pat wait) (n : Nat) : PeersAt (w.drewN n) b sf nodes pat wait := ⟨h.blk, h.hself, h.hnodes, h.hpat, h.len, h.hwait⟩
theorem PeersAt.lt (h : PeersAt w b sf nodes pat wait) : b < w.heap.size := by
  rcases Nat.lt_or_ge b w.heap.size with hlt | hge
  · exact hlt
  · have := h.blk; rw [Array.getElem?_eq_none hge] at this; cases this
theorem PeersAt.alloc (h : PeersAt w b sf nodes pat wait) (o : Obj) : PeersAt (w.alloc o) b sf nodes pat wait :=
  ⟨(Below.heap_alloc w o b h.lt).trans h.blk, h.hself, h.hnodes, h.hpat, h.len, h.hwait⟩
theorem PeersAt.below (h : PeersAt w b sf nodes pat wait) {B : Nat} (hb : Below B w w') (hB : b < B) : PeersAt w' b sf nodes pat wait :=
  ⟨(hb.block b hB).trans h.blk, h.hself, h.hnodes, h.hpat, h.len, h.hwait⟩
theorem PeersAt.far (h : PeersAt w b sf nodes pat wait) {p : Addr} (hp : b ≠ p.block) (u : Value) : PeersAt (w.setCell p u) b sf nodes pat wait :=
  ⟨(Below.heap_setCell w p u b hp).trans h.blk, h.hself, h.hnodes, h.hpat, h.len, h.hwait⟩
theorem PeersAt.new (w : World) (sf nodes pat : Int) (hs : 0 ≤ sf ∧ sf < 256) : PeersAt (w.alloc (.cells (peerCells sf (clamp nodes 64) (clamp pat 8) (List.replicate 65 0)) 63)) w.heap.size sf (clamp nodes 64) (clamp pat 8) (List.replicate 65 0) :=
  ⟨heap_alloc_new w _, hs, clamp_bd _ _ (by omega), clamp_bd _ _ (by omega), by simp, fun n hn => by rw [List.eq_of_mem_replicate hn]; omega⟩
theorem PeersAt.set (h : PeersAt w b sf nodes pat wait) (n : Nat) (v : Int) (hv : 0 ≤ v ∧ v ≤ 8) : PeersAt (w.setCell ⟨b, 3 + n, none⟩ (.int .i64 v)) b sf nodes pat (wait.set n v) := by
  refine ⟨?_, h.hself, h.hnodes, h.hpat, by rw [List.length_set, h.len], fun m hm => ?_⟩
  · simp only [World.setCell, Array.getElem?_modify, h.blk, if_true, Option.map_some]
    congr 2
    simp [peerCells, Nat.add_comm 3 n, List.map_set]
  · rcases List.mem_or_eq_of_mem_set hm with hm | rfl
    · exact h.hwait m hm
    · exact hv
end
end Go.Proofs.Ytlebhalaodmkhaa
