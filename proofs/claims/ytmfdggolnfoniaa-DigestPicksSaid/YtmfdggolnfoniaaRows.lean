/-
  No cell of these rows narrows 'for every input' (looked for: loops, veiled, ifaces, maps, wideKeys, modest, calm, conditions, laid).
  DERIVED. THE GIVEN ROWS OF THIS SEAT. 5 by the template 'for every input the law returns true; each argument reads behind the call as it read before'; 0 by the template 'total and deterministic' (their statements: YtmfdggolnfoniaaTotals.lean).
  GIVEN WITH THE SEED: the statements are not yours to turn. If you find one false, say at which input.
  Laid BY PROGRAM, IN A SANDBOX (cutbox-rows.mjs): the forced cells as the released guide's own fill.sh prints them over the translation 0218bda1801065b5… (all of the seat's roots in one cut). By AI agents, Wed Nov 11 2026. No macro, syntax, notation, axiom, sorry.
-/
import Derived.Test.YtmfdggolnfoniaaChecked
import GoSem.Claim
import GoSem.ClaimJoined
import GoSem.ClaimMapViews
import Derived.JoinedTies
import Derived.KernelRfl
namespace Go.Proofs.Ytmfdggolnfoniaa
/- THE CELL 'sum', in the pinned program and in every row, IS THE sha256 OF THE DUMP (.gsa) THAT YtmfdggolnfoniaaProg.lean LOADS. Nothing in Lean hashes anything: it is a label: what it is worth is what the hold of that sum in a sandbox is worth. -/
noncomputable def Try.pinned : Pinned := { name := "ytmfdggolnfoniaa", sum := "0218bda1801065b5ff1121ab686816b266e61bce70edb16334ba301bc16d1d25", checked := Try.checked }
namespace Rows
def none {H : Type} : Left H := { results := [], args := [] }

/-- 'bruitlaw35.DigestPicks': WHATEVER THE INPUT: true; the input reads as it did. -/
def digestPicksSpec : ChangeSpec := { name := "digestPicks", fn := fun _ => fun
  | [d1, d2, d3] => { results := [.lit (.bool true)], args := [d1, d2, d3] }
  | _ => none }
def digestPicksRow : OpenClaim := { program := "ytmfdggolnfoniaa", sum := "0218bda1801065b5ff1121ab686816b266e61bce70edb16334ba301bc16d1d25", func := "bruit/bruitlaw35.DigestPicks", spec := "digestPicks", plainKeys := false, apart := false }
def DigestPicksSaid : Prop := digestPicksRow.holds Try.pinned (OpenSpec.ofChange digestPicksSpec)

/-- ITS FALSE NEIGHBOUR: 'it returns false'. Refute it at one input. -/
def digestPicksWrong : ChangeSpec := { name := "digestPicks", fn := fun _ => fun
  | [d1, d2, d3] => { results := [.lit (.bool false)], args := [d1, d2, d3] }
  | _ => none }
def DigestPicksWrongFalsely : Prop := digestPicksRow.holds Try.pinned (OpenSpec.ofChange digestPicksWrong)

/-- 'bruitlaw18.PatchGood': WHATEVER THE INPUT: true; the input reads as it did. -/
def patchGoodSpec : ChangeSpec := { name := "patchGood", fn := fun _ => fun
  | [d] => { results := [.lit (.bool true)], args := [d] }
  | _ => none }
def patchGoodRow : OpenClaim := { program := "ytmfdggolnfoniaa", sum := "0218bda1801065b5ff1121ab686816b266e61bce70edb16334ba301bc16d1d25", func := "bruit/bruitlaw18.PatchGood", spec := "patchGood", inPlace := ["internal/bytealg.IndexByteString"], unfollowed := true, recurses := true, plainKeys := false, apart := false }
def PatchGoodSaid : Prop := patchGoodRow.holds Try.pinned (OpenSpec.ofChange patchGoodSpec)

/-- ITS FALSE NEIGHBOUR: 'it returns false'. Refute it at one input. -/
def patchGoodWrong : ChangeSpec := { name := "patchGood", fn := fun _ => fun
  | [d] => { results := [.lit (.bool false)], args := [d] }
  | _ => none }
def PatchGoodWrongFalsely : Prop := patchGoodRow.holds Try.pinned (OpenSpec.ofChange patchGoodWrong)

/-- 'bruitlaw18.PatchMakes': WHATEVER THE INPUT: true; the input reads as it did. -/
def patchMakesSpec : ChangeSpec := { name := "patchMakes", fn := fun _ => fun
  | [d1, d2, d3] => { results := [.lit (.bool true)], args := [d1, d2, d3] }
  | _ => none }
def patchMakesRow : OpenClaim := { program := "ytmfdggolnfoniaa", sum := "0218bda1801065b5ff1121ab686816b266e61bce70edb16334ba301bc16d1d25", func := "bruit/bruitlaw18.PatchMakes", spec := "patchMakes", inPlace := ["internal/bytealg.IndexByteString"], unfollowed := true, recurses := true, plainKeys := false, apart := false }
def PatchMakesSaid : Prop := patchMakesRow.holds Try.pinned (OpenSpec.ofChange patchMakesSpec)

/-- ITS FALSE NEIGHBOUR: 'it returns false'. Refute it at one input. -/
def patchMakesWrong : ChangeSpec := { name := "patchMakes", fn := fun _ => fun
  | [d1, d2, d3] => { results := [.lit (.bool false)], args := [d1, d2, d3] }
  | _ => none }
def PatchMakesWrongFalsely : Prop := patchMakesRow.holds Try.pinned (OpenSpec.ofChange patchMakesWrong)

/-- 'bruitlaw18.PatchAhead': WHATEVER THE INPUT: true; the input reads as it did. -/
def patchAheadSpec : ChangeSpec := { name := "patchAhead", fn := fun _ => fun
  | [d] => { results := [.lit (.bool true)], args := [d] }
  | _ => none }
def patchAheadRow : OpenClaim := { program := "ytmfdggolnfoniaa", sum := "0218bda1801065b5ff1121ab686816b266e61bce70edb16334ba301bc16d1d25", func := "bruit/bruitlaw18.PatchAhead", spec := "patchAhead", inPlace := ["internal/bytealg.IndexByteString"], unfollowed := true, recurses := true, plainKeys := false, apart := false }
def PatchAheadSaid : Prop := patchAheadRow.holds Try.pinned (OpenSpec.ofChange patchAheadSpec)

/-- ITS FALSE NEIGHBOUR: 'it returns false'. Refute it at one input. -/
def patchAheadWrong : ChangeSpec := { name := "patchAhead", fn := fun _ => fun
  | [d] => { results := [.lit (.bool false)], args := [d] }
  | _ => none }
def PatchAheadWrongFalsely : Prop := patchAheadRow.holds Try.pinned (OpenSpec.ofChange patchAheadWrong)

/-- 'bruitlaw18.PatchSame': WHATEVER THE INPUT: true; the input reads as it did. -/
def patchSameSpec : ChangeSpec := { name := "patchSame", fn := fun _ => fun
  | [d1, d2] => { results := [.lit (.bool true)], args := [d1, d2] }
  | _ => none }
def patchSameRow : OpenClaim := { program := "ytmfdggolnfoniaa", sum := "0218bda1801065b5ff1121ab686816b266e61bce70edb16334ba301bc16d1d25", func := "bruit/bruitlaw18.PatchSame", spec := "patchSame", inPlace := ["internal/bytealg.IndexByteString"], unfollowed := true, recurses := true, plainKeys := false, apart := false }
def PatchSameSaid : Prop := patchSameRow.holds Try.pinned (OpenSpec.ofChange patchSameSpec)

/-- ITS FALSE NEIGHBOUR: 'it returns false'. Refute it at one input. -/
def patchSameWrong : ChangeSpec := { name := "patchSame", fn := fun _ => fun
  | [d1, d2] => { results := [.lit (.bool false)], args := [d1, d2] }
  | _ => none }
def PatchSameWrongFalsely : Prop := patchSameRow.holds Try.pinned (OpenSpec.ofChange patchSameWrong)

/- THE SECOND FORM. 'bulk': how many values and letters a reading holds, each counted each time it is reached (what is shared counts as often as it is met; a slice's spare places count too). A statement '..UptoSaid' is the law's where the arguments, and the package variables that the reading takes, are together of bulk at most 1048576: NARROWER than '..Said'. Prove '..Said' where nothing that the law and all that it calls make is longer than what came in: it says more and counts as full. Else prove '..UptoSaid'. A law counts once. -/
mutual
def uptoBulk {H : Type} : DataW H → Nat
  | .lit (.string bytes) => bytes.length + 1
  | .lit _ => 1
  | .nil => 1
  | .ptr d => uptoBulk d + 1
  | .slice elems spare => uptoBulkAll elems + uptoBulkAll spare + 1
  | .agg parts => uptoBulkAll parts + 1
  | .iface _ d => uptoBulk d + 1
  | .map entries => uptoBulkEntries entries + 1
  | .held _ => 1
def uptoBulkAll {H : Type} : List (DataW H) → Nat
  | [] => 0
  | d :: r => uptoBulk d + uptoBulkAll r
def uptoBulkEntries {H : Type} : List (Lit × DataW H) → Nat
  | [] => 0
  | x :: r => uptoBulkEntry x + uptoBulkEntries r
def uptoBulkEntry {H : Type} : Lit × DataW H → Nat
  | (.string bytes, d) => bytes.length + uptoBulk d + 1
  | (_, d) => uptoBulk d + 1
 end
def uptoSmall : (H : Type) → List (DataW H) → Bool := fun _ ds => decide (uptoBulkAll ds ≤ 1048576)
def OpenSpec.upto (s : _root_.Go.ChangeSpec) : _root_.Go.OpenSpec := { _root_.Go.OpenSpec.ofChange s with cond := some uptoSmall }

/-- 'bruitlaw35.DigestPicks', WHERE WHAT IT READS IS OF BULK AT MOST 1048576: true; the input reads as it did. -/
def digestPicksUptoRow : OpenClaim := { program := "ytmfdggolnfoniaa", sum := "0218bda1801065b5ff1121ab686816b266e61bce70edb16334ba301bc16d1d25", func := "bruit/bruitlaw35.DigestPicks", spec := "digestPicks", plainKeys := false, apart := false, narrowed := true }
def DigestPicksUptoSaid : Prop := digestPicksUptoRow.holds Try.pinned (OpenSpec.upto digestPicksSpec)

/-- 'bruitlaw18.PatchGood', WHERE WHAT IT READS IS OF BULK AT MOST 1048576: true; the input reads as it did. -/
def patchGoodUptoRow : OpenClaim := { program := "ytmfdggolnfoniaa", sum := "0218bda1801065b5ff1121ab686816b266e61bce70edb16334ba301bc16d1d25", func := "bruit/bruitlaw18.PatchGood", spec := "patchGood", inPlace := ["internal/bytealg.IndexByteString"], unfollowed := true, recurses := true, plainKeys := false, apart := false, narrowed := true }
def PatchGoodUptoSaid : Prop := patchGoodUptoRow.holds Try.pinned (OpenSpec.upto patchGoodSpec)

/-- 'bruitlaw18.PatchMakes', WHERE WHAT IT READS IS OF BULK AT MOST 1048576: true; the input reads as it did. -/
def patchMakesUptoRow : OpenClaim := { program := "ytmfdggolnfoniaa", sum := "0218bda1801065b5ff1121ab686816b266e61bce70edb16334ba301bc16d1d25", func := "bruit/bruitlaw18.PatchMakes", spec := "patchMakes", inPlace := ["internal/bytealg.IndexByteString"], unfollowed := true, recurses := true, plainKeys := false, apart := false, narrowed := true }
def PatchMakesUptoSaid : Prop := patchMakesUptoRow.holds Try.pinned (OpenSpec.upto patchMakesSpec)

/-- 'bruitlaw18.PatchAhead', WHERE WHAT IT READS IS OF BULK AT MOST 1048576: true; the input reads as it did. -/
def patchAheadUptoRow : OpenClaim := { program := "ytmfdggolnfoniaa", sum := "0218bda1801065b5ff1121ab686816b266e61bce70edb16334ba301bc16d1d25", func := "bruit/bruitlaw18.PatchAhead", spec := "patchAhead", inPlace := ["internal/bytealg.IndexByteString"], unfollowed := true, recurses := true, plainKeys := false, apart := false, narrowed := true }
def PatchAheadUptoSaid : Prop := patchAheadUptoRow.holds Try.pinned (OpenSpec.upto patchAheadSpec)

/-- 'bruitlaw18.PatchSame', WHERE WHAT IT READS IS OF BULK AT MOST 1048576: true; the input reads as it did. -/
def patchSameUptoRow : OpenClaim := { program := "ytmfdggolnfoniaa", sum := "0218bda1801065b5ff1121ab686816b266e61bce70edb16334ba301bc16d1d25", func := "bruit/bruitlaw18.PatchSame", spec := "patchSame", inPlace := ["internal/bytealg.IndexByteString"], unfollowed := true, recurses := true, plainKeys := false, apart := false, narrowed := true }
def PatchSameUptoSaid : Prop := patchSameUptoRow.holds Try.pinned (OpenSpec.upto patchSameSpec)

end Rows
end Go.Proofs.Ytmfdggolnfoniaa
