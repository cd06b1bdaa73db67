/-
  No cell of these rows narrows 'for every input' (looked for: loops, veiled, ifaces, maps, wideKeys, modest, calm, conditions, laid).
  DERIVED. THE GIVEN ROWS OF THIS SEAT. 8 by the template 'for every input the law returns true; each argument reads behind the call as it read before'; 0 by the template 'total and deterministic' (their statements: YtnhbbggpgieipaaTotals.lean).
  GIVEN WITH THE SEED: the statements are not yours to turn. If you find one false, say at which input.
  Laid BY PROGRAM, IN A SANDBOX (cutbox-rows.mjs): the forced cells as the released guide's own fill.sh prints them over the translation 74e8ab50bfc3e2ef… (all of the seat's roots in one cut). By AI agents, Wed Nov 11 2026. No macro, syntax, notation, axiom, sorry.
-/
import Derived.Test.YtnhbbggpgieipaaChecked
import GoSem.Claim
import GoSem.ClaimJoined
import GoSem.ClaimMapViews
import Derived.JoinedTies
import Derived.KernelRfl
namespace Go.Proofs.Ytnhbbggpgieipaa
/- THE CELL 'sum', in the pinned program and in every row, IS THE sha256 OF THE DUMP (.gsa) THAT YtnhbbggpgieipaaProg.lean LOADS. Nothing in Lean hashes anything: it is a label: what it is worth is what the hold of that sum in a sandbox is worth. -/
noncomputable def Try.pinned : Pinned := { name := "ytnhbbggpgieipaa", sum := "74e8ab50bfc3e2ef9a9ba0097cf8679064195a367e7f13147e7b9c9170d9bd77", checked := Try.checked }
namespace Rows
def none {H : Type} : Left H := { results := [], args := [] }

/-- 'bruitlaw31.IndexLacks': WHATEVER THE INPUT: true; the input reads as it did. -/
def indexLacksSpec : ChangeSpec := { name := "indexLacks", fn := fun _ => fun
  | [d1, d2] => { results := [.lit (.bool true)], args := [d1, d2] }
  | _ => none }
def indexLacksRow : OpenClaim := { program := "ytnhbbggpgieipaa", sum := "74e8ab50bfc3e2ef9a9ba0097cf8679064195a367e7f13147e7b9c9170d9bd77", func := "bruit/bruitlaw31.IndexLacks", spec := "indexLacks", inPlace := ["internal/bytealg.IndexByteString"], unfollowed := true, recurses := true, plainKeys := false, apart := false }
def IndexLacksSaid : Prop := indexLacksRow.holds Try.pinned (OpenSpec.ofChange indexLacksSpec)

/-- ITS FALSE NEIGHBOUR: 'it returns false'. Refute it at one input. -/
def indexLacksWrong : ChangeSpec := { name := "indexLacks", fn := fun _ => fun
  | [d1, d2] => { results := [.lit (.bool false)], args := [d1, d2] }
  | _ => none }
def IndexLacksWrongFalsely : Prop := indexLacksRow.holds Try.pinned (OpenSpec.ofChange indexLacksWrong)

/-- 'bruitlaw31.IndexFirst': WHATEVER THE INPUT: true; the input reads as it did. -/
def indexFirstSpec : ChangeSpec := { name := "indexFirst", fn := fun _ => fun
  | [d1, d2] => { results := [.lit (.bool true)], args := [d1, d2] }
  | _ => none }
def indexFirstRow : OpenClaim := { program := "ytnhbbggpgieipaa", sum := "74e8ab50bfc3e2ef9a9ba0097cf8679064195a367e7f13147e7b9c9170d9bd77", func := "bruit/bruitlaw31.IndexFirst", spec := "indexFirst", inPlace := ["internal/bytealg.IndexByteString"], unfollowed := true, recurses := true, plainKeys := false, apart := false }
def IndexFirstSaid : Prop := indexFirstRow.holds Try.pinned (OpenSpec.ofChange indexFirstSpec)

/-- ITS FALSE NEIGHBOUR: 'it returns false'. Refute it at one input. -/
def indexFirstWrong : ChangeSpec := { name := "indexFirst", fn := fun _ => fun
  | [d1, d2] => { results := [.lit (.bool false)], args := [d1, d2] }
  | _ => none }
def IndexFirstWrongFalsely : Prop := indexFirstRow.holds Try.pinned (OpenSpec.ofChange indexFirstWrong)

/-- 'bruitlaw31.IndexPlays': WHATEVER THE INPUT: true; the input reads as it did. -/
def indexPlaysSpec : ChangeSpec := { name := "indexPlays", fn := fun _ => fun
  | [d] => { results := [.lit (.bool true)], args := [d] }
  | _ => none }
def indexPlaysRow : OpenClaim := { program := "ytnhbbggpgieipaa", sum := "74e8ab50bfc3e2ef9a9ba0097cf8679064195a367e7f13147e7b9c9170d9bd77", func := "bruit/bruitlaw31.IndexPlays", spec := "indexPlays", inPlace := ["internal/bytealg.IndexByteString"], unfollowed := true, recurses := true, plainKeys := false, apart := false }
def IndexPlaysSaid : Prop := indexPlaysRow.holds Try.pinned (OpenSpec.ofChange indexPlaysSpec)

/-- ITS FALSE NEIGHBOUR: 'it returns false'. Refute it at one input. -/
def indexPlaysWrong : ChangeSpec := { name := "indexPlays", fn := fun _ => fun
  | [d] => { results := [.lit (.bool false)], args := [d] }
  | _ => none }
def IndexPlaysWrongFalsely : Prop := indexPlaysRow.holds Try.pinned (OpenSpec.ofChange indexPlaysWrong)

/-- 'bruitlaw31.IndexNil': WHATEVER THE INPUT: true; the input reads as it did. -/
def indexNilSpec : ChangeSpec := { name := "indexNil", fn := fun _ => fun
  | [d1, d2] => { results := [.lit (.bool true)], args := [d1, d2] }
  | _ => none }
def indexNilRow : OpenClaim := { program := "ytnhbbggpgieipaa", sum := "74e8ab50bfc3e2ef9a9ba0097cf8679064195a367e7f13147e7b9c9170d9bd77", func := "bruit/bruitlaw31.IndexNil", spec := "indexNil", inPlace := ["internal/bytealg.IndexByteString"], unfollowed := true, recurses := true, plainKeys := false, apart := false }
def IndexNilSaid : Prop := indexNilRow.holds Try.pinned (OpenSpec.ofChange indexNilSpec)

/-- ITS FALSE NEIGHBOUR: 'it returns false'. Refute it at one input. -/
def indexNilWrong : ChangeSpec := { name := "indexNil", fn := fun _ => fun
  | [d1, d2] => { results := [.lit (.bool false)], args := [d1, d2] }
  | _ => none }
def IndexNilWrongFalsely : Prop := indexNilRow.holds Try.pinned (OpenSpec.ofChange indexNilWrong)

/-- 'bruitlaw48.HangSays': WHATEVER THE INPUT: true; the input reads as it did. -/
def hangSaysSpec : ChangeSpec := { name := "hangSays", fn := fun _ => fun
  | [d1, d2] => { results := [.lit (.bool true)], args := [d1, d2] }
  | _ => none }
def hangSaysRow : OpenClaim := { program := "ytnhbbggpgieipaa", sum := "74e8ab50bfc3e2ef9a9ba0097cf8679064195a367e7f13147e7b9c9170d9bd77", func := "bruit/bruitlaw48.HangSays", spec := "hangSays", unfollowed := true, recurses := true, plainKeys := false, apart := false }
def HangSaysSaid : Prop := hangSaysRow.holds Try.pinned (OpenSpec.ofChange hangSaysSpec)

/-- ITS FALSE NEIGHBOUR: 'it returns false'. Refute it at one input. -/
def hangSaysWrong : ChangeSpec := { name := "hangSays", fn := fun _ => fun
  | [d1, d2] => { results := [.lit (.bool false)], args := [d1, d2] }
  | _ => none }
def HangSaysWrongFalsely : Prop := hangSaysRow.holds Try.pinned (OpenSpec.ofChange hangSaysWrong)

/-- 'bruitlaw48.HangNil': WHATEVER THE INPUT: true; the input reads as it did. -/
def hangNilSpec : ChangeSpec := { name := "hangNil", fn := fun _ => fun
  | [d1, d2, d3] => { results := [.lit (.bool true)], args := [d1, d2, d3] }
  | _ => none }
def hangNilRow : OpenClaim := { program := "ytnhbbggpgieipaa", sum := "74e8ab50bfc3e2ef9a9ba0097cf8679064195a367e7f13147e7b9c9170d9bd77", func := "bruit/bruitlaw48.HangNil", spec := "hangNil", unfollowed := true, recurses := true, plainKeys := false, apart := false }
def HangNilSaid : Prop := hangNilRow.holds Try.pinned (OpenSpec.ofChange hangNilSpec)

/-- ITS FALSE NEIGHBOUR: 'it returns false'. Refute it at one input. -/
def hangNilWrong : ChangeSpec := { name := "hangNil", fn := fun _ => fun
  | [d1, d2, d3] => { results := [.lit (.bool false)], args := [d1, d2, d3] }
  | _ => none }
def HangNilWrongFalsely : Prop := hangNilRow.holds Try.pinned (OpenSpec.ofChange hangNilWrong)

/-- 'bruitlaw32.PoolNil': WHATEVER THE INPUT: true; the input reads as it did. -/
def poolNilSpec : ChangeSpec := { name := "poolNil", fn := fun _ => fun
  | [d1, d2, d3] => { results := [.lit (.bool true)], args := [d1, d2, d3] }
  | _ => none }
def poolNilRow : OpenClaim := { program := "ytnhbbggpgieipaa", sum := "74e8ab50bfc3e2ef9a9ba0097cf8679064195a367e7f13147e7b9c9170d9bd77", func := "bruit/bruitlaw32.PoolNil", spec := "poolNil", inPlace := ["internal/bytealg.IndexByteString"], unfollowed := true, recurses := true, plainKeys := false, apart := false }
def PoolNilSaid : Prop := poolNilRow.holds Try.pinned (OpenSpec.ofChange poolNilSpec)

/-- ITS FALSE NEIGHBOUR: 'it returns false'. Refute it at one input. -/
def poolNilWrong : ChangeSpec := { name := "poolNil", fn := fun _ => fun
  | [d1, d2, d3] => { results := [.lit (.bool false)], args := [d1, d2, d3] }
  | _ => none }
def PoolNilWrongFalsely : Prop := poolNilRow.holds Try.pinned (OpenSpec.ofChange poolNilWrong)

/-- 'bruitlaw32.PoolReady': WHATEVER THE INPUT: true; the input reads as it did. -/
def poolReadySpec : ChangeSpec := { name := "poolReady", fn := fun _ => fun
  | [d1, d2, d3] => { results := [.lit (.bool true)], args := [d1, d2, d3] }
  | _ => none }
def poolReadyRow : OpenClaim := { program := "ytnhbbggpgieipaa", sum := "74e8ab50bfc3e2ef9a9ba0097cf8679064195a367e7f13147e7b9c9170d9bd77", func := "bruit/bruitlaw32.PoolReady", spec := "poolReady", inPlace := ["internal/bytealg.IndexByteString"], unfollowed := true, recurses := true, plainKeys := false, apart := false }
def PoolReadySaid : Prop := poolReadyRow.holds Try.pinned (OpenSpec.ofChange poolReadySpec)

/-- ITS FALSE NEIGHBOUR: 'it returns false'. Refute it at one input. -/
def poolReadyWrong : ChangeSpec := { name := "poolReady", fn := fun _ => fun
  | [d1, d2, d3] => { results := [.lit (.bool false)], args := [d1, d2, d3] }
  | _ => none }
def PoolReadyWrongFalsely : Prop := poolReadyRow.holds Try.pinned (OpenSpec.ofChange poolReadyWrong)

/- THE SECOND FORM. 'bulk': how many values and letters a reading holds, each counted each time it is reached (what is shared counts as often as it is met; a slice's spare places count too). A statement '..UptoSaid' is the law's where the arguments, and the package variables that the reading takes, are together of bulk at most 1048576: NARROWER than '..Said'. Prove '..Said' where nothing that the law and all that it calls make is longer than what came in: it says more and counts as full. Else prove '..UptoSaid'. A law counts once. -/
mutual
def uptoBulk {H : Type} : DataW H → Nat
  | .lit (.string bytes) => bytes.length + 1
  | .lit _ => 1
  | .nil => 1
  | .ptr d => uptoBulk d + 1
  | .slice elems spare => uptoBulkAll elems + uptoBulkAll spare + 1
  | .agg parts => uptoBulkAll parts + 1
  | .iface _ d => uptoBulk d + 1
  | .map entries => uptoBulkEntries entries + 1
  | .held _ => 1
def uptoBulkAll {H : Type} : List (DataW H) → Nat
  | [] => 0
  | d :: r => uptoBulk d + uptoBulkAll r
def uptoBulkEntries {H : Type} : List (Lit × DataW H) → Nat
  | [] => 0
  | x :: r => uptoBulkEntry x + uptoBulkEntries r
def uptoBulkEntry {H : Type} : Lit × DataW H → Nat
  | (.string bytes, d) => bytes.length + uptoBulk d + 1
  | (_, d) => uptoBulk d + 1
 end
def uptoSmall : (H : Type) → List (DataW H) → Bool := fun _ ds => decide (uptoBulkAll ds ≤ 1048576)
def OpenSpec.upto (s : _root_.Go.ChangeSpec) : _root_.Go.OpenSpec := { _root_.Go.OpenSpec.ofChange s with cond := some uptoSmall }

/-- 'bruitlaw31.IndexLacks', WHERE WHAT IT READS IS OF BULK AT MOST 1048576: true; the input reads as it did. -/
def indexLacksUptoRow : OpenClaim := { program := "ytnhbbggpgieipaa", sum := "74e8ab50bfc3e2ef9a9ba0097cf8679064195a367e7f13147e7b9c9170d9bd77", func := "bruit/bruitlaw31.IndexLacks", spec := "indexLacks", inPlace := ["internal/bytealg.IndexByteString"], unfollowed := true, recurses := true, plainKeys := false, apart := false, narrowed := true }
def IndexLacksUptoSaid : Prop := indexLacksUptoRow.holds Try.pinned (OpenSpec.upto indexLacksSpec)

/-- 'bruitlaw31.IndexFirst', WHERE WHAT IT READS IS OF BULK AT MOST 1048576: true; the input reads as it did. -/
def indexFirstUptoRow : OpenClaim := { program := "ytnhbbggpgieipaa", sum := "74e8ab50bfc3e2ef9a9ba0097cf8679064195a367e7f13147e7b9c9170d9bd77", func := "bruit/bruitlaw31.IndexFirst", spec := "indexFirst", inPlace := ["internal/bytealg.IndexByteString"], unfollowed := true, recurses := true, plainKeys := false, apart := false, narrowed := true }
def IndexFirstUptoSaid : Prop := indexFirstUptoRow.holds Try.pinned (OpenSpec.upto indexFirstSpec)

/-- 'bruitlaw31.IndexPlays', WHERE WHAT IT READS IS OF BULK AT MOST 1048576: true; the input reads as it did. -/
def indexPlaysUptoRow : OpenClaim := { program := "ytnhbbggpgieipaa", sum := "74e8ab50bfc3e2ef9a9ba0097cf8679064195a367e7f13147e7b9c9170d9bd77", func := "bruit/bruitlaw31.IndexPlays", spec := "indexPlays", inPlace := ["internal/bytealg.IndexByteString"], unfollowed := true, recurses := true, plainKeys := false, apart := false, narrowed := true }
def IndexPlaysUptoSaid : Prop := indexPlaysUptoRow.holds Try.pinned (OpenSpec.upto indexPlaysSpec)

/-- 'bruitlaw31.IndexNil', WHERE WHAT IT READS IS OF BULK AT MOST 1048576: true; the input reads as it did. -/
def indexNilUptoRow : OpenClaim := { program := "ytnhbbggpgieipaa", sum := "74e8ab50bfc3e2ef9a9ba0097cf8679064195a367e7f13147e7b9c9170d9bd77", func := "bruit/bruitlaw31.IndexNil", spec := "indexNil", inPlace := ["internal/bytealg.IndexByteString"], unfollowed := true, recurses := true, plainKeys := false, apart := false, narrowed := true }
def IndexNilUptoSaid : Prop := indexNilUptoRow.holds Try.pinned (OpenSpec.upto indexNilSpec)

/-- 'bruitlaw48.HangSays', WHERE WHAT IT READS IS OF BULK AT MOST 1048576: true; the input reads as it did. -/
def hangSaysUptoRow : OpenClaim := { program := "ytnhbbggpgieipaa", sum := "74e8ab50bfc3e2ef9a9ba0097cf8679064195a367e7f13147e7b9c9170d9bd77", func := "bruit/bruitlaw48.HangSays", spec := "hangSays", unfollowed := true, recurses := true, plainKeys := false, apart := false, narrowed := true }
def HangSaysUptoSaid : Prop := hangSaysUptoRow.holds Try.pinned (OpenSpec.upto hangSaysSpec)

/-- 'bruitlaw48.HangNil', WHERE WHAT IT READS IS OF BULK AT MOST 1048576: true; the input reads as it did. -/
def hangNilUptoRow : OpenClaim := { program := "ytnhbbggpgieipaa", sum := "74e8ab50bfc3e2ef9a9ba0097cf8679064195a367e7f13147e7b9c9170d9bd77", func := "bruit/bruitlaw48.HangNil", spec := "hangNil", unfollowed := true, recurses := true, plainKeys := false, apart := false, narrowed := true }
def HangNilUptoSaid : Prop := hangNilUptoRow.holds Try.pinned (OpenSpec.upto hangNilSpec)

/-- 'bruitlaw32.PoolNil', WHERE WHAT IT READS IS OF BULK AT MOST 1048576: true; the input reads as it did. -/
def poolNilUptoRow : OpenClaim := { program := "ytnhbbggpgieipaa", sum := "74e8ab50bfc3e2ef9a9ba0097cf8679064195a367e7f13147e7b9c9170d9bd77", func := "bruit/bruitlaw32.PoolNil", spec := "poolNil", inPlace := ["internal/bytealg.IndexByteString"], unfollowed := true, recurses := true, plainKeys := false, apart := false, narrowed := true }
def PoolNilUptoSaid : Prop := poolNilUptoRow.holds Try.pinned (OpenSpec.upto poolNilSpec)

/-- 'bruitlaw32.PoolReady', WHERE WHAT IT READS IS OF BULK AT MOST 1048576: true; the input reads as it did. -/
def poolReadyUptoRow : OpenClaim := { program := "ytnhbbggpgieipaa", sum := "74e8ab50bfc3e2ef9a9ba0097cf8679064195a367e7f13147e7b9c9170d9bd77", func := "bruit/bruitlaw32.PoolReady", spec := "poolReady", inPlace := ["internal/bytealg.IndexByteString"], unfollowed := true, recurses := true, plainKeys := false, apart := false, narrowed := true }
def PoolReadyUptoSaid : Prop := poolReadyUptoRow.holds Try.pinned (OpenSpec.upto poolReadySpec)

end Rows
end Go.Proofs.Ytnhbbggpgieipaa
