/-
  No cell of these rows narrows 'for every input' (looked for: loops, veiled, ifaces, maps, wideKeys, modest, calm, conditions, laid).
  DERIVED. THE GIVEN ROWS OF THIS SEAT. 9 by the template 'for every input the law returns true; each argument reads behind the call as it read before'; 0 by the template 'total and deterministic' (their statements: YtceapefjdiphpaaTotals.lean).
  GIVEN WITH THE SEED: the statements are not yours to turn. If you find one false, say at which input.
  Laid BY PROGRAM, IN A SANDBOX (cutbox-rows.mjs): the forced cells as the released guide's own fill.sh prints them over the translation bf7c43c115596074… (all of the seat's roots in one cut). By AI agents, Wed Nov 11 2026. No macro, syntax, notation, axiom, sorry.
-/
import Derived.Test.YtceapefjdiphpaaChecked
import GoSem.Claim
import GoSem.ClaimJoined
import GoSem.ClaimMapViews
import Derived.JoinedTies
import Derived.KernelRfl
namespace Go.Proofs.Ytceapefjdiphpaa
/- THE CELL 'sum', in the pinned program and in every row, IS THE sha256 OF THE DUMP (.gsa) THAT YtceapefjdiphpaaProg.lean LOADS. Nothing in Lean hashes anything: it is a label: what it is worth is what the hold of that sum in a sandbox is worth. -/
noncomputable def Try.pinned : Pinned := { name := "ytceapefjdiphpaa", sum := "bf7c43c115596074a33de5aefb4f20a6985cd8d5f232940a174cc92307926f2a", checked := Try.checked }
namespace Rows
def none {H : Type} : Left H := { results := [], args := [] }

/-- 'bruitlaw12.VecLists': WHATEVER THE INPUT: true; the input reads as it did. -/
def vecListsSpec : ChangeSpec := { name := "vecLists", fn := fun _ => fun
  | [d1, d2] => { results := [.lit (.bool true)], args := [d1, d2] }
  | _ => none }
def vecListsRow : OpenClaim := { program := "ytceapefjdiphpaa", sum := "bf7c43c115596074a33de5aefb4f20a6985cd8d5f232940a174cc92307926f2a", func := "bruit/bruitlaw12.VecLists", spec := "vecLists", plainKeys := false, apart := false }
def VecListsSaid : Prop := vecListsRow.holds Try.pinned (OpenSpec.ofChange vecListsSpec)

/-- ITS FALSE NEIGHBOUR: 'it returns false'. Refute it at one input. -/
def vecListsWrong : ChangeSpec := { name := "vecLists", fn := fun _ => fun
  | [d1, d2] => { results := [.lit (.bool false)], args := [d1, d2] }
  | _ => none }
def VecListsWrongFalsely : Prop := vecListsRow.holds Try.pinned (OpenSpec.ofChange vecListsWrong)

/-- 'bruitlaw12.VecLaws': WHATEVER THE INPUT: true; the input reads as it did. -/
def vecLawsSpec : ChangeSpec := { name := "vecLaws", fn := fun _ => fun
  | [d1, d2, d3] => { results := [.lit (.bool true)], args := [d1, d2, d3] }
  | _ => none }
def vecLawsRow : OpenClaim := { program := "ytceapefjdiphpaa", sum := "bf7c43c115596074a33de5aefb4f20a6985cd8d5f232940a174cc92307926f2a", func := "bruit/bruitlaw12.VecLaws", spec := "vecLaws", plainKeys := false, apart := false }
def VecLawsSaid : Prop := vecLawsRow.holds Try.pinned (OpenSpec.ofChange vecLawsSpec)

/-- ITS FALSE NEIGHBOUR: 'it returns false'. Refute it at one input. -/
def vecLawsWrong : ChangeSpec := { name := "vecLaws", fn := fun _ => fun
  | [d1, d2, d3] => { results := [.lit (.bool false)], args := [d1, d2, d3] }
  | _ => none }
def VecLawsWrongFalsely : Prop := vecLawsRow.holds Try.pinned (OpenSpec.ofChange vecLawsWrong)

/-- 'bruitlaw12.VecPairs': WHATEVER THE INPUT: true; the input reads as it did. -/
def vecPairsSpec : ChangeSpec := { name := "vecPairs", fn := fun _ => fun
  | [d1, d2] => { results := [.lit (.bool true)], args := [d1, d2] }
  | _ => none }
def vecPairsRow : OpenClaim := { program := "ytceapefjdiphpaa", sum := "bf7c43c115596074a33de5aefb4f20a6985cd8d5f232940a174cc92307926f2a", func := "bruit/bruitlaw12.VecPairs", spec := "vecPairs", plainKeys := false, apart := false }
def VecPairsSaid : Prop := vecPairsRow.holds Try.pinned (OpenSpec.ofChange vecPairsSpec)

/-- ITS FALSE NEIGHBOUR: 'it returns false'. Refute it at one input. -/
def vecPairsWrong : ChangeSpec := { name := "vecPairs", fn := fun _ => fun
  | [d1, d2] => { results := [.lit (.bool false)], args := [d1, d2] }
  | _ => none }
def VecPairsWrongFalsely : Prop := vecPairsRow.holds Try.pinned (OpenSpec.ofChange vecPairsWrong)

/-- 'bruitlaw12.VecHas': WHATEVER THE INPUT: true; the input reads as it did. -/
def vecHasSpec : ChangeSpec := { name := "vecHas", fn := fun _ => fun
  | [d1, d2, d3] => { results := [.lit (.bool true)], args := [d1, d2, d3] }
  | _ => none }
def vecHasRow : OpenClaim := { program := "ytceapefjdiphpaa", sum := "bf7c43c115596074a33de5aefb4f20a6985cd8d5f232940a174cc92307926f2a", func := "bruit/bruitlaw12.VecHas", spec := "vecHas", plainKeys := false, apart := false }
def VecHasSaid : Prop := vecHasRow.holds Try.pinned (OpenSpec.ofChange vecHasSpec)

/-- ITS FALSE NEIGHBOUR: 'it returns false'. Refute it at one input. -/
def vecHasWrong : ChangeSpec := { name := "vecHas", fn := fun _ => fun
  | [d1, d2, d3] => { results := [.lit (.bool false)], args := [d1, d2, d3] }
  | _ => none }
def VecHasWrongFalsely : Prop := vecHasRow.holds Try.pinned (OpenSpec.ofChange vecHasWrong)

/-- 'bruitlaw17.OpTells': WHATEVER THE INPUT: true; the input reads as it did. -/
def opTellsSpec : ChangeSpec := { name := "opTells", fn := fun _ => fun
  | [d1, d2, d3] => { results := [.lit (.bool true)], args := [d1, d2, d3] }
  | _ => none }
def opTellsRow : OpenClaim := { program := "ytceapefjdiphpaa", sum := "bf7c43c115596074a33de5aefb4f20a6985cd8d5f232940a174cc92307926f2a", func := "bruit/bruitlaw17.OpTells", spec := "opTells", inPlace := ["internal/bytealg.IndexByteString"], plainKeys := false, apart := false }
def OpTellsSaid : Prop := opTellsRow.holds Try.pinned (OpenSpec.ofChange opTellsSpec)

/-- ITS FALSE NEIGHBOUR: 'it returns false'. Refute it at one input. -/
def opTellsWrong : ChangeSpec := { name := "opTells", fn := fun _ => fun
  | [d1, d2, d3] => { results := [.lit (.bool false)], args := [d1, d2, d3] }
  | _ => none }
def OpTellsWrongFalsely : Prop := opTellsRow.holds Try.pinned (OpenSpec.ofChange opTellsWrong)

/-- 'bruitlaw17.OpLater': WHATEVER THE INPUT: true; the input reads as it did. -/
def opLaterSpec : ChangeSpec := { name := "opLater", fn := fun _ => fun
  | [d1, d2, d3] => { results := [.lit (.bool true)], args := [d1, d2, d3] }
  | _ => none }
def opLaterRow : OpenClaim := { program := "ytceapefjdiphpaa", sum := "bf7c43c115596074a33de5aefb4f20a6985cd8d5f232940a174cc92307926f2a", func := "bruit/bruitlaw17.OpLater", spec := "opLater", inPlace := ["internal/bytealg.IndexByteString"], plainKeys := false, apart := false }
def OpLaterSaid : Prop := opLaterRow.holds Try.pinned (OpenSpec.ofChange opLaterSpec)

/-- ITS FALSE NEIGHBOUR: 'it returns false'. Refute it at one input. -/
def opLaterWrong : ChangeSpec := { name := "opLater", fn := fun _ => fun
  | [d1, d2, d3] => { results := [.lit (.bool false)], args := [d1, d2, d3] }
  | _ => none }
def OpLaterWrongFalsely : Prop := opLaterRow.holds Try.pinned (OpenSpec.ofChange opLaterWrong)

/-- 'bruitlaw15.TreeTells': WHATEVER THE INPUT: true; the input reads as it did. -/
def treeTellsSpec : ChangeSpec := { name := "treeTells", fn := fun _ => fun
  | [d1, d2, d3] => { results := [.lit (.bool true)], args := [d1, d2, d3] }
  | _ => none }
def treeTellsRow : OpenClaim := { program := "ytceapefjdiphpaa", sum := "bf7c43c115596074a33de5aefb4f20a6985cd8d5f232940a174cc92307926f2a", func := "bruit/bruitlaw15.TreeTells", spec := "treeTells", inPlace := ["internal/abi.NoEscape", "internal/bytealg.IndexByteString"], unfollowed := true, recurses := true, plainKeys := false, apart := false }
def TreeTellsSaid : Prop := treeTellsRow.holds Try.pinned (OpenSpec.ofChange treeTellsSpec)

/-- ITS FALSE NEIGHBOUR: 'it returns false'. Refute it at one input. -/
def treeTellsWrong : ChangeSpec := { name := "treeTells", fn := fun _ => fun
  | [d1, d2, d3] => { results := [.lit (.bool false)], args := [d1, d2, d3] }
  | _ => none }
def TreeTellsWrongFalsely : Prop := treeTellsRow.holds Try.pinned (OpenSpec.ofChange treeTellsWrong)

/-- 'bruitlaw15.TreeUnlike': WHATEVER THE INPUT: true; the input reads as it did. -/
def treeUnlikeSpec : ChangeSpec := { name := "treeUnlike", fn := fun _ => fun
  | [d1, d2] => { results := [.lit (.bool true)], args := [d1, d2] }
  | _ => none }
def treeUnlikeRow : OpenClaim := { program := "ytceapefjdiphpaa", sum := "bf7c43c115596074a33de5aefb4f20a6985cd8d5f232940a174cc92307926f2a", func := "bruit/bruitlaw15.TreeUnlike", spec := "treeUnlike", inPlace := ["internal/abi.NoEscape", "internal/bytealg.IndexByteString"], unfollowed := true, recurses := true, plainKeys := false, apart := false }
def TreeUnlikeSaid : Prop := treeUnlikeRow.holds Try.pinned (OpenSpec.ofChange treeUnlikeSpec)

/-- ITS FALSE NEIGHBOUR: 'it returns false'. Refute it at one input. -/
def treeUnlikeWrong : ChangeSpec := { name := "treeUnlike", fn := fun _ => fun
  | [d1, d2] => { results := [.lit (.bool false)], args := [d1, d2] }
  | _ => none }
def TreeUnlikeWrongFalsely : Prop := treeUnlikeRow.holds Try.pinned (OpenSpec.ofChange treeUnlikeWrong)

/-- 'bruitlaw15.TreeFinds': WHATEVER THE INPUT: true; the input reads as it did. -/
def treeFindsSpec : ChangeSpec := { name := "treeFinds", fn := fun _ => fun
  | [d1, d2] => { results := [.lit (.bool true)], args := [d1, d2] }
  | _ => none }
def treeFindsRow : OpenClaim := { program := "ytceapefjdiphpaa", sum := "bf7c43c115596074a33de5aefb4f20a6985cd8d5f232940a174cc92307926f2a", func := "bruit/bruitlaw15.TreeFinds", spec := "treeFinds", inPlace := ["internal/bytealg.IndexByteString", "internal/abi.NoEscape"], unfollowed := true, recurses := true, plainKeys := false, apart := false }
def TreeFindsSaid : Prop := treeFindsRow.holds Try.pinned (OpenSpec.ofChange treeFindsSpec)

/-- ITS FALSE NEIGHBOUR: 'it returns false'. Refute it at one input. -/
def treeFindsWrong : ChangeSpec := { name := "treeFinds", fn := fun _ => fun
  | [d1, d2] => { results := [.lit (.bool false)], args := [d1, d2] }
  | _ => none }
def TreeFindsWrongFalsely : Prop := treeFindsRow.holds Try.pinned (OpenSpec.ofChange treeFindsWrong)

/- THE SECOND FORM. 'bulk': how many values and letters a reading holds, each counted each time it is reached (what is shared counts as often as it is met; a slice's spare places count too). A statement '..UptoSaid' is the law's where the arguments, and the package variables that the reading takes, are together of bulk at most 1048576: NARROWER than '..Said'. Prove '..Said' where nothing that the law and all that it calls make is longer than what came in: it says more and counts as full. Else prove '..UptoSaid'. A law counts once. -/
mutual
def uptoBulk {H : Type} : DataW H → Nat
  | .lit (.string bytes) => bytes.length + 1
  | .lit _ => 1
  | .nil => 1
  | .ptr d => uptoBulk d + 1
  | .slice elems spare => uptoBulkAll elems + uptoBulkAll spare + 1
  | .agg parts => uptoBulkAll parts + 1
  | .iface _ d => uptoBulk d + 1
  | .map entries => uptoBulkEntries entries + 1
  | .held _ => 1
def uptoBulkAll {H : Type} : List (DataW H) → Nat
  | [] => 0
  | d :: r => uptoBulk d + uptoBulkAll r
def uptoBulkEntries {H : Type} : List (Lit × DataW H) → Nat
  | [] => 0
  | x :: r => uptoBulkEntry x + uptoBulkEntries r
def uptoBulkEntry {H : Type} : Lit × DataW H → Nat
  | (.string bytes, d) => bytes.length + uptoBulk d + 1
  | (_, d) => uptoBulk d + 1
 end
def uptoSmall : (H : Type) → List (DataW H) → Bool := fun _ ds => decide (uptoBulkAll ds ≤ 1048576)
def OpenSpec.upto (s : _root_.Go.ChangeSpec) : _root_.Go.OpenSpec := { _root_.Go.OpenSpec.ofChange s with cond := some uptoSmall }

/-- 'bruitlaw12.VecLists', WHERE WHAT IT READS IS OF BULK AT MOST 1048576: true; the input reads as it did. -/
def vecListsUptoRow : OpenClaim := { program := "ytceapefjdiphpaa", sum := "bf7c43c115596074a33de5aefb4f20a6985cd8d5f232940a174cc92307926f2a", func := "bruit/bruitlaw12.VecLists", spec := "vecLists", plainKeys := false, apart := false, narrowed := true }
def VecListsUptoSaid : Prop := vecListsUptoRow.holds Try.pinned (OpenSpec.upto vecListsSpec)

/-- 'bruitlaw12.VecLaws', WHERE WHAT IT READS IS OF BULK AT MOST 1048576: true; the input reads as it did. -/
def vecLawsUptoRow : OpenClaim := { program := "ytceapefjdiphpaa", sum := "bf7c43c115596074a33de5aefb4f20a6985cd8d5f232940a174cc92307926f2a", func := "bruit/bruitlaw12.VecLaws", spec := "vecLaws", plainKeys := false, apart := false, narrowed := true }
def VecLawsUptoSaid : Prop := vecLawsUptoRow.holds Try.pinned (OpenSpec.upto vecLawsSpec)

/-- 'bruitlaw12.VecPairs', WHERE WHAT IT READS IS OF BULK AT MOST 1048576: true; the input reads as it did. -/
def vecPairsUptoRow : OpenClaim := { program := "ytceapefjdiphpaa", sum := "bf7c43c115596074a33de5aefb4f20a6985cd8d5f232940a174cc92307926f2a", func := "bruit/bruitlaw12.VecPairs", spec := "vecPairs", plainKeys := false, apart := false, narrowed := true }
def VecPairsUptoSaid : Prop := vecPairsUptoRow.holds Try.pinned (OpenSpec.upto vecPairsSpec)

/-- 'bruitlaw12.VecHas', WHERE WHAT IT READS IS OF BULK AT MOST 1048576: true; the input reads as it did. -/
def vecHasUptoRow : OpenClaim := { program := "ytceapefjdiphpaa", sum := "bf7c43c115596074a33de5aefb4f20a6985cd8d5f232940a174cc92307926f2a", func := "bruit/bruitlaw12.VecHas", spec := "vecHas", plainKeys := false, apart := false, narrowed := true }
def VecHasUptoSaid : Prop := vecHasUptoRow.holds Try.pinned (OpenSpec.upto vecHasSpec)

/-- 'bruitlaw17.OpTells', WHERE WHAT IT READS IS OF BULK AT MOST 1048576: true; the input reads as it did. -/
def opTellsUptoRow : OpenClaim := { program := "ytceapefjdiphpaa", sum := "bf7c43c115596074a33de5aefb4f20a6985cd8d5f232940a174cc92307926f2a", func := "bruit/bruitlaw17.OpTells", spec := "opTells", inPlace := ["internal/bytealg.IndexByteString"], plainKeys := false, apart := false, narrowed := true }
def OpTellsUptoSaid : Prop := opTellsUptoRow.holds Try.pinned (OpenSpec.upto opTellsSpec)

/-- 'bruitlaw17.OpLater', WHERE WHAT IT READS IS OF BULK AT MOST 1048576: true; the input reads as it did. -/
def opLaterUptoRow : OpenClaim := { program := "ytceapefjdiphpaa", sum := "bf7c43c115596074a33de5aefb4f20a6985cd8d5f232940a174cc92307926f2a", func := "bruit/bruitlaw17.OpLater", spec := "opLater", inPlace := ["internal/bytealg.IndexByteString"], plainKeys := false, apart := false, narrowed := true }
def OpLaterUptoSaid : Prop := opLaterUptoRow.holds Try.pinned (OpenSpec.upto opLaterSpec)

/-- 'bruitlaw15.TreeTells', WHERE WHAT IT READS IS OF BULK AT MOST 1048576: true; the input reads as it did. -/
def treeTellsUptoRow : OpenClaim := { program := "ytceapefjdiphpaa", sum := "bf7c43c115596074a33de5aefb4f20a6985cd8d5f232940a174cc92307926f2a", func := "bruit/bruitlaw15.TreeTells", spec := "treeTells", inPlace := ["internal/abi.NoEscape", "internal/bytealg.IndexByteString"], unfollowed := true, recurses := true, plainKeys := false, apart := false, narrowed := true }
def TreeTellsUptoSaid : Prop := treeTellsUptoRow.holds Try.pinned (OpenSpec.upto treeTellsSpec)

/-- 'bruitlaw15.TreeUnlike', WHERE WHAT IT READS IS OF BULK AT MOST 1048576: true; the input reads as it did. -/
def treeUnlikeUptoRow : OpenClaim := { program := "ytceapefjdiphpaa", sum := "bf7c43c115596074a33de5aefb4f20a6985cd8d5f232940a174cc92307926f2a", func := "bruit/bruitlaw15.TreeUnlike", spec := "treeUnlike", inPlace := ["internal/abi.NoEscape", "internal/bytealg.IndexByteString"], unfollowed := true, recurses := true, plainKeys := false, apart := false, narrowed := true }
def TreeUnlikeUptoSaid : Prop := treeUnlikeUptoRow.holds Try.pinned (OpenSpec.upto treeUnlikeSpec)

/-- 'bruitlaw15.TreeFinds', WHERE WHAT IT READS IS OF BULK AT MOST 1048576: true; the input reads as it did. -/
def treeFindsUptoRow : OpenClaim := { program := "ytceapefjdiphpaa", sum := "bf7c43c115596074a33de5aefb4f20a6985cd8d5f232940a174cc92307926f2a", func := "bruit/bruitlaw15.TreeFinds", spec := "treeFinds", inPlace := ["internal/bytealg.IndexByteString", "internal/abi.NoEscape"], unfollowed := true, recurses := true, plainKeys := false, apart := false, narrowed := true }
def TreeFindsUptoSaid : Prop := treeFindsUptoRow.holds Try.pinned (OpenSpec.upto treeFindsSpec)

end Rows
end Go.Proofs.Ytceapefjdiphpaa
