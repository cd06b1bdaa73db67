/-
  No cell of these rows narrows 'for every input' (looked for: loops, veiled, ifaces, maps, wideKeys, modest, calm, conditions, laid).
  DERIVED. THE GIVEN ROWS OF THIS SEAT. 8 by the template 'for every input the law returns true; each argument reads behind the call as it read before'; 0 by the template 'total and deterministic' (their statements: YtlebhalaodmkhaaTotals.lean).
  GIVEN WITH THE SEED: the statements are not yours to turn. If you find one false, say at which input.
  Laid BY PROGRAM, IN A SANDBOX (cutbox-rows.mjs): the forced cells as the released guide's own fill.sh prints them over the translation aff279ead3400385… (all of the seat's roots in one cut). By AI agents, Wed Nov 11 2026. No macro, syntax, notation, axiom, sorry.
-/
import Derived.Test.YtlebhalaodmkhaaChecked
import GoSem.Claim
import GoSem.ClaimJoined
import GoSem.ClaimMapViews
import Derived.JoinedTies
import Derived.KernelRfl
namespace Go.Proofs.Ytlebhalaodmkhaa
/- THE CELL 'sum', in the pinned program and in every row, IS THE sha256 OF THE DUMP (.gsa) THAT YtlebhalaodmkhaaProg.lean LOADS. Nothing in Lean hashes anything: it is a label: what it is worth is what the hold of that sum in a sandbox is worth. -/
noncomputable def Try.pinned : Pinned := { name := "ytlebhalaodmkhaa", sum := "aff279ead3400385e27ab038fca7ba5bcbb2e6e27c5459bb0cbd1086303ad2ff", checked := Try.checked }
namespace Rows
def none {H : Type} : Left H := { results := [], args := [] }

/-- 'bruitlaw14.WordTells': WHATEVER THE INPUT: true; the input reads as it did. -/
def wordTellsSpec : ChangeSpec := { name := "wordTells", fn := fun _ => fun
  | [d] => { results := [.lit (.bool true)], args := [d] }
  | _ => none }
def wordTellsRow : OpenClaim := { program := "ytlebhalaodmkhaa", sum := "aff279ead3400385e27ab038fca7ba5bcbb2e6e27c5459bb0cbd1086303ad2ff", func := "bruit/bruitlaw14.WordTells", spec := "wordTells", inPlace := ["internal/bytealg.IndexByteString"], apart := false }
def WordTellsSaid : Prop := wordTellsRow.holds Try.pinned (OpenSpec.ofChange wordTellsSpec)

/-- ITS FALSE NEIGHBOUR: 'it returns false'. Refute it at one input. -/
def wordTellsWrong : ChangeSpec := { name := "wordTells", fn := fun _ => fun
  | [d] => { results := [.lit (.bool false)], args := [d] }
  | _ => none }
def WordTellsWrongFalsely : Prop := wordTellsRow.holds Try.pinned (OpenSpec.ofChange wordTellsWrong)

/-- 'bruitlaw14.WordParts': WHATEVER THE INPUT: true; the input reads as it did. -/
def wordPartsSpec : ChangeSpec := { name := "wordParts", fn := fun _ => fun
  | [d1, d2] => { results := [.lit (.bool true)], args := [d1, d2] }
  | _ => none }
def wordPartsRow : OpenClaim := { program := "ytlebhalaodmkhaa", sum := "aff279ead3400385e27ab038fca7ba5bcbb2e6e27c5459bb0cbd1086303ad2ff", func := "bruit/bruitlaw14.WordParts", spec := "wordParts", inPlace := ["internal/bytealg.IndexByteString"], apart := false }
def WordPartsSaid : Prop := wordPartsRow.holds Try.pinned (OpenSpec.ofChange wordPartsSpec)

/-- ITS FALSE NEIGHBOUR: 'it returns false'. Refute it at one input. -/
def wordPartsWrong : ChangeSpec := { name := "wordParts", fn := fun _ => fun
  | [d1, d2] => { results := [.lit (.bool false)], args := [d1, d2] }
  | _ => none }
def WordPartsWrongFalsely : Prop := wordPartsRow.holds Try.pinned (OpenSpec.ofChange wordPartsWrong)

/-- 'bruitlaw36.PeersDraw': WHATEVER THE INPUT: true; the input reads as it did. -/
def peersDrawSpec : ChangeSpec := { name := "peersDraw", fn := fun _ => fun
  | [d1, d2, d3] => { results := [.lit (.bool true)], args := [d1, d2, d3] }
  | _ => none }
def peersDrawRow : OpenClaim := { program := "ytlebhalaodmkhaa", sum := "aff279ead3400385e27ab038fca7ba5bcbb2e6e27c5459bb0cbd1086303ad2ff", func := "bruit/bruitlaw36.PeersDraw", spec := "peersDraw", apart := false }
def PeersDrawSaid : Prop := peersDrawRow.holds Try.pinned (OpenSpec.ofChange peersDrawSpec)

/-- ITS FALSE NEIGHBOUR: 'it returns false'. Refute it at one input. -/
def peersDrawWrong : ChangeSpec := { name := "peersDraw", fn := fun _ => fun
  | [d1, d2, d3] => { results := [.lit (.bool false)], args := [d1, d2, d3] }
  | _ => none }
def PeersDrawWrongFalsely : Prop := peersDrawRow.holds Try.pinned (OpenSpec.ofChange peersDrawWrong)

/-- 'bruitlaw26.LcsSays': WHATEVER THE INPUT: true; the input reads as it did. -/
def lcsSaysSpec : ChangeSpec := { name := "lcsSays", fn := fun _ => fun
  | [d1, d2] => { results := [.lit (.bool true)], args := [d1, d2] }
  | _ => none }
def lcsSaysRow : OpenClaim := { program := "ytlebhalaodmkhaa", sum := "aff279ead3400385e27ab038fca7ba5bcbb2e6e27c5459bb0cbd1086303ad2ff", func := "bruit/bruitlaw26.LcsSays", spec := "lcsSays", apart := false }
def LcsSaysSaid : Prop := lcsSaysRow.holds Try.pinned (OpenSpec.ofChange lcsSaysSpec)

/-- ITS FALSE NEIGHBOUR: 'it returns false'. Refute it at one input. -/
def lcsSaysWrong : ChangeSpec := { name := "lcsSays", fn := fun _ => fun
  | [d1, d2] => { results := [.lit (.bool false)], args := [d1, d2] }
  | _ => none }
def LcsSaysWrongFalsely : Prop := lcsSaysRow.holds Try.pinned (OpenSpec.ofChange lcsSaysWrong)

/-- 'bruitlaw26.LcsBest': WHATEVER THE INPUT: true; the input reads as it did. -/
def lcsBestSpec : ChangeSpec := { name := "lcsBest", fn := fun _ => fun
  | [d1, d2] => { results := [.lit (.bool true)], args := [d1, d2] }
  | _ => none }
def lcsBestRow : OpenClaim := { program := "ytlebhalaodmkhaa", sum := "aff279ead3400385e27ab038fca7ba5bcbb2e6e27c5459bb0cbd1086303ad2ff", func := "bruit/bruitlaw26.LcsBest", spec := "lcsBest", apart := false }
def LcsBestSaid : Prop := lcsBestRow.holds Try.pinned (OpenSpec.ofChange lcsBestSpec)

/-- ITS FALSE NEIGHBOUR: 'it returns false'. Refute it at one input. -/
def lcsBestWrong : ChangeSpec := { name := "lcsBest", fn := fun _ => fun
  | [d1, d2] => { results := [.lit (.bool false)], args := [d1, d2] }
  | _ => none }
def LcsBestWrongFalsely : Prop := lcsBestRow.holds Try.pinned (OpenSpec.ofChange lcsBestWrong)

/-- 'bruitlaw26.LcsMore': WHATEVER THE INPUT: true; the input reads as it did. -/
def lcsMoreSpec : ChangeSpec := { name := "lcsMore", fn := fun _ => fun
  | [d1, d2, d3] => { results := [.lit (.bool true)], args := [d1, d2, d3] }
  | _ => none }
def lcsMoreRow : OpenClaim := { program := "ytlebhalaodmkhaa", sum := "aff279ead3400385e27ab038fca7ba5bcbb2e6e27c5459bb0cbd1086303ad2ff", func := "bruit/bruitlaw26.LcsMore", spec := "lcsMore", apart := false }
def LcsMoreSaid : Prop := lcsMoreRow.holds Try.pinned (OpenSpec.ofChange lcsMoreSpec)

/-- ITS FALSE NEIGHBOUR: 'it returns false'. Refute it at one input. -/
def lcsMoreWrong : ChangeSpec := { name := "lcsMore", fn := fun _ => fun
  | [d1, d2, d3] => { results := [.lit (.bool false)], args := [d1, d2, d3] }
  | _ => none }
def LcsMoreWrongFalsely : Prop := lcsMoreRow.holds Try.pinned (OpenSpec.ofChange lcsMoreWrong)

/-- 'bruitlaw36.PeersPlay': WHATEVER THE INPUT: true; the input reads as it did. -/
def peersPlaySpec : ChangeSpec := { name := "peersPlay", fn := fun _ => fun
  | [d1, d2, d3] => { results := [.lit (.bool true)], args := [d1, d2, d3] }
  | _ => none }
def peersPlayRow : OpenClaim := { program := "ytlebhalaodmkhaa", sum := "aff279ead3400385e27ab038fca7ba5bcbb2e6e27c5459bb0cbd1086303ad2ff", func := "bruit/bruitlaw36.PeersPlay", spec := "peersPlay", apart := false }
def PeersPlaySaid : Prop := peersPlayRow.holds Try.pinned (OpenSpec.ofChange peersPlaySpec)

/-- ITS FALSE NEIGHBOUR: 'it returns false'. Refute it at one input. -/
def peersPlayWrong : ChangeSpec := { name := "peersPlay", fn := fun _ => fun
  | [d1, d2, d3] => { results := [.lit (.bool false)], args := [d1, d2, d3] }
  | _ => none }
def PeersPlayWrongFalsely : Prop := peersPlayRow.holds Try.pinned (OpenSpec.ofChange peersPlayWrong)

/-- 'bruitlaw36.PeersWait': WHATEVER THE INPUT: true; the input reads as it did. -/
def peersWaitSpec : ChangeSpec := { name := "peersWait", fn := fun _ => fun
  | [d1, d2, d3] => { results := [.lit (.bool true)], args := [d1, d2, d3] }
  | _ => none }
def peersWaitRow : OpenClaim := { program := "ytlebhalaodmkhaa", sum := "aff279ead3400385e27ab038fca7ba5bcbb2e6e27c5459bb0cbd1086303ad2ff", func := "bruit/bruitlaw36.PeersWait", spec := "peersWait", apart := false }
def PeersWaitSaid : Prop := peersWaitRow.holds Try.pinned (OpenSpec.ofChange peersWaitSpec)

/-- ITS FALSE NEIGHBOUR: 'it returns false'. Refute it at one input. -/
def peersWaitWrong : ChangeSpec := { name := "peersWait", fn := fun _ => fun
  | [d1, d2, d3] => { results := [.lit (.bool false)], args := [d1, d2, d3] }
  | _ => none }
def PeersWaitWrongFalsely : Prop := peersWaitRow.holds Try.pinned (OpenSpec.ofChange peersWaitWrong)

/- THE SECOND FORM. 'bulk': how many values and letters a reading holds, each counted each time it is reached (what is shared counts as often as it is met; a slice's spare places count too). A statement '..UptoSaid' is the law's where the arguments, and the package variables that the reading takes, are together of bulk at most 1048576: NARROWER than '..Said'. Prove '..Said' where nothing that the law and all that it calls make is longer than what came in: it says more and counts as full. Else prove '..UptoSaid'. A law counts once. -/
mutual
def uptoBulk {H : Type} : DataW H → Nat
  | .lit (.string bytes) => bytes.length + 1
  | .lit _ => 1
  | .nil => 1
  | .ptr d => uptoBulk d + 1
  | .slice elems spare => uptoBulkAll elems + uptoBulkAll spare + 1
  | .agg parts => uptoBulkAll parts + 1
  | .iface _ d => uptoBulk d + 1
  | .map entries => uptoBulkEntries entries + 1
  | .held _ => 1
def uptoBulkAll {H : Type} : List (DataW H) → Nat
  | [] => 0
  | d :: r => uptoBulk d + uptoBulkAll r
def uptoBulkEntries {H : Type} : List (Lit × DataW H) → Nat
  | [] => 0
  | x :: r => uptoBulkEntry x + uptoBulkEntries r
def uptoBulkEntry {H : Type} : Lit × DataW H → Nat
  | (.string bytes, d) => bytes.length + uptoBulk d + 1
  | (_, d) => uptoBulk d + 1
 end
def uptoSmall : (H : Type) → List (DataW H) → Bool := fun _ ds => decide (uptoBulkAll ds ≤ 1048576)
def OpenSpec.upto (s : _root_.Go.ChangeSpec) : _root_.Go.OpenSpec := { _root_.Go.OpenSpec.ofChange s with cond := some uptoSmall }

/-- 'bruitlaw14.WordTells', WHERE WHAT IT READS IS OF BULK AT MOST 1048576: true; the input reads as it did. -/
def wordTellsUptoRow : OpenClaim := { program := "ytlebhalaodmkhaa", sum := "aff279ead3400385e27ab038fca7ba5bcbb2e6e27c5459bb0cbd1086303ad2ff", func := "bruit/bruitlaw14.WordTells", spec := "wordTells", inPlace := ["internal/bytealg.IndexByteString"], apart := false, narrowed := true }
def WordTellsUptoSaid : Prop := wordTellsUptoRow.holds Try.pinned (OpenSpec.upto wordTellsSpec)

/-- 'bruitlaw14.WordParts', WHERE WHAT IT READS IS OF BULK AT MOST 1048576: true; the input reads as it did. -/
def wordPartsUptoRow : OpenClaim := { program := "ytlebhalaodmkhaa", sum := "aff279ead3400385e27ab038fca7ba5bcbb2e6e27c5459bb0cbd1086303ad2ff", func := "bruit/bruitlaw14.WordParts", spec := "wordParts", inPlace := ["internal/bytealg.IndexByteString"], apart := false, narrowed := true }
def WordPartsUptoSaid : Prop := wordPartsUptoRow.holds Try.pinned (OpenSpec.upto wordPartsSpec)

/-- 'bruitlaw36.PeersDraw', WHERE WHAT IT READS IS OF BULK AT MOST 1048576: true; the input reads as it did. -/
def peersDrawUptoRow : OpenClaim := { program := "ytlebhalaodmkhaa", sum := "aff279ead3400385e27ab038fca7ba5bcbb2e6e27c5459bb0cbd1086303ad2ff", func := "bruit/bruitlaw36.PeersDraw", spec := "peersDraw", apart := false, narrowed := true }
def PeersDrawUptoSaid : Prop := peersDrawUptoRow.holds Try.pinned (OpenSpec.upto peersDrawSpec)

/-- 'bruitlaw26.LcsSays', WHERE WHAT IT READS IS OF BULK AT MOST 1048576: true; the input reads as it did. -/
def lcsSaysUptoRow : OpenClaim := { program := "ytlebhalaodmkhaa", sum := "aff279ead3400385e27ab038fca7ba5bcbb2e6e27c5459bb0cbd1086303ad2ff", func := "bruit/bruitlaw26.LcsSays", spec := "lcsSays", apart := false, narrowed := true }
def LcsSaysUptoSaid : Prop := lcsSaysUptoRow.holds Try.pinned (OpenSpec.upto lcsSaysSpec)

/-- 'bruitlaw26.LcsBest', WHERE WHAT IT READS IS OF BULK AT MOST 1048576: true; the input reads as it did. -/
def lcsBestUptoRow : OpenClaim := { program := "ytlebhalaodmkhaa", sum := "aff279ead3400385e27ab038fca7ba5bcbb2e6e27c5459bb0cbd1086303ad2ff", func := "bruit/bruitlaw26.LcsBest", spec := "lcsBest", apart := false, narrowed := true }
def LcsBestUptoSaid : Prop := lcsBestUptoRow.holds Try.pinned (OpenSpec.upto lcsBestSpec)

/-- 'bruitlaw26.LcsMore', WHERE WHAT IT READS IS OF BULK AT MOST 1048576: true; the input reads as it did. -/
def lcsMoreUptoRow : OpenClaim := { program := "ytlebhalaodmkhaa", sum := "aff279ead3400385e27ab038fca7ba5bcbb2e6e27c5459bb0cbd1086303ad2ff", func := "bruit/bruitlaw26.LcsMore", spec := "lcsMore", apart := false, narrowed := true }
def LcsMoreUptoSaid : Prop := lcsMoreUptoRow.holds Try.pinned (OpenSpec.upto lcsMoreSpec)

/-- 'bruitlaw36.PeersPlay', WHERE WHAT IT READS IS OF BULK AT MOST 1048576: true; the input reads as it did. -/
def peersPlayUptoRow : OpenClaim := { program := "ytlebhalaodmkhaa", sum := "aff279ead3400385e27ab038fca7ba5bcbb2e6e27c5459bb0cbd1086303ad2ff", func := "bruit/bruitlaw36.PeersPlay", spec := "peersPlay", apart := false, narrowed := true }
def PeersPlayUptoSaid : Prop := peersPlayUptoRow.holds Try.pinned (OpenSpec.upto peersPlaySpec)

/-- 'bruitlaw36.PeersWait', WHERE WHAT IT READS IS OF BULK AT MOST 1048576: true; the input reads as it did. -/
def peersWaitUptoRow : OpenClaim := { program := "ytlebhalaodmkhaa", sum := "aff279ead3400385e27ab038fca7ba5bcbb2e6e27c5459bb0cbd1086303ad2ff", func := "bruit/bruitlaw36.PeersWait", spec := "peersWait", apart := false, narrowed := true }
def PeersWaitUptoSaid : Prop := peersWaitUptoRow.holds Try.pinned (OpenSpec.upto peersWaitSpec)

end Rows
end Go.Proofs.Ytlebhalaodmkhaa
