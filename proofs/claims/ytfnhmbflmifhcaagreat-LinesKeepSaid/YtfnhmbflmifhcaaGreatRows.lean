/-
  No cell of these rows narrows 'for every input' (looked for: loops, veiled, ifaces, maps, wideKeys, modest, calm, conditions, laid).
  DERIVED. THE GIVEN ROWS OF THIS SEAT. 8 by the template 'for every input the law returns true; each argument reads behind the call as it read before'; 0 by the template 'total and deterministic' (their statements: YtfnhmbflmifhcaaGreatTotals.lean).
  GIVEN WITH THE SEED: the statements are not yours to turn. If you find one false, say at which input.
  Laid BY PROGRAM, IN A SANDBOX (cutbox-rows.mjs): the forced cells as the released guide's own fill.sh prints them over the translation 3805fc61cf1d0813… (all of the seat's roots in one cut). By AI agents, Wed Nov 11 2026. No macro, syntax, notation, axiom, sorry.
-/
import Derived.Test.YtfnhmbflmifhcaaGreatChecked
import GoSem.Claim
import GoSem.ClaimJoined
import GoSem.ClaimMapViews
import Derived.JoinedTies
import Derived.KernelRfl
namespace Go.Proofs.YtfnhmbflmifhcaaGreat
/- THE CELL 'sum', in the pinned program and in every row, IS THE sha256 OF THE DUMP (.gsa) THAT YtfnhmbflmifhcaaGreatProg.lean LOADS. Nothing in Lean hashes anything: it is a label: what it is worth is what the hold of that sum in a sandbox is worth. -/
noncomputable def Tryz.pinned : Pinned := { name := "ytfnhmbflmifhcaagreat", sum := "3805fc61cf1d081352be33afce5e3b4d766a3b3033f42f08a9f0f28a2a76ba45", checked := Tryz.checked }
namespace Rows
def none {H : Type} : Left H := { results := [], args := [] }

/-- 'bruitlaw20.GraphPlays': WHATEVER THE INPUT: true; the input reads as it did. -/
def graphPlaysSpec : ChangeSpec := { name := "graphPlays", fn := fun _ => fun
  | [d] => { results := [.lit (.bool true)], args := [d] }
  | _ => none }
def graphPlaysRow : OpenClaim := { program := "ytfnhmbflmifhcaagreat", sum := "3805fc61cf1d081352be33afce5e3b4d766a3b3033f42f08a9f0f28a2a76ba45", func := "bruit/bruitlaw20.GraphPlays", spec := "graphPlays", inPlace := ["internal/bytealg.IndexByteString"], unfollowed := true, recurses := true, plainKeys := false, apart := false }
def GraphPlaysSaid : Prop := graphPlaysRow.holds Tryz.pinned (OpenSpec.ofChange graphPlaysSpec)

/-- ITS FALSE NEIGHBOUR: 'it returns false'. Refute it at one input. -/
def graphPlaysWrong : ChangeSpec := { name := "graphPlays", fn := fun _ => fun
  | [d] => { results := [.lit (.bool false)], args := [d] }
  | _ => none }
def GraphPlaysWrongFalsely : Prop := graphPlaysRow.holds Tryz.pinned (OpenSpec.ofChange graphPlaysWrong)

/-- 'bruitlaw20.GraphAsks': WHATEVER THE INPUT: true; the input reads as it did. -/
def graphAsksSpec : ChangeSpec := { name := "graphAsks", fn := fun _ => fun
  | [d1, d2, d3] => { results := [.lit (.bool true)], args := [d1, d2, d3] }
  | _ => none }
def graphAsksRow : OpenClaim := { program := "ytfnhmbflmifhcaagreat", sum := "3805fc61cf1d081352be33afce5e3b4d766a3b3033f42f08a9f0f28a2a76ba45", func := "bruit/bruitlaw20.GraphAsks", spec := "graphAsks", inPlace := ["internal/bytealg.IndexByteString"], unfollowed := true, recurses := true, plainKeys := false, apart := false }
def GraphAsksSaid : Prop := graphAsksRow.holds Tryz.pinned (OpenSpec.ofChange graphAsksSpec)

/-- ITS FALSE NEIGHBOUR: 'it returns false'. Refute it at one input. -/
def graphAsksWrong : ChangeSpec := { name := "graphAsks", fn := fun _ => fun
  | [d1, d2, d3] => { results := [.lit (.bool false)], args := [d1, d2, d3] }
  | _ => none }
def GraphAsksWrongFalsely : Prop := graphAsksRow.holds Tryz.pinned (OpenSpec.ofChange graphAsksWrong)

/-- 'bruitlaw20.GraphWhole': WHATEVER THE INPUT: true; the input reads as it did. -/
def graphWholeSpec : ChangeSpec := { name := "graphWhole", fn := fun _ => fun
  | [d] => { results := [.lit (.bool true)], args := [d] }
  | _ => none }
def graphWholeRow : OpenClaim := { program := "ytfnhmbflmifhcaagreat", sum := "3805fc61cf1d081352be33afce5e3b4d766a3b3033f42f08a9f0f28a2a76ba45", func := "bruit/bruitlaw20.GraphWhole", spec := "graphWhole", inPlace := ["internal/bytealg.IndexByteString"], unfollowed := true, recurses := true, plainKeys := false, apart := false }
def GraphWholeSaid : Prop := graphWholeRow.holds Tryz.pinned (OpenSpec.ofChange graphWholeSpec)

/-- ITS FALSE NEIGHBOUR: 'it returns false'. Refute it at one input. -/
def graphWholeWrong : ChangeSpec := { name := "graphWhole", fn := fun _ => fun
  | [d] => { results := [.lit (.bool false)], args := [d] }
  | _ => none }
def GraphWholeWrongFalsely : Prop := graphWholeRow.holds Tryz.pinned (OpenSpec.ofChange graphWholeWrong)

/-- 'bruitlaw20.GraphTurns': WHATEVER THE INPUT: true; the input reads as it did. -/
def graphTurnsSpec : ChangeSpec := { name := "graphTurns", fn := fun _ => fun
  | [d1, d2] => { results := [.lit (.bool true)], args := [d1, d2] }
  | _ => none }
def graphTurnsRow : OpenClaim := { program := "ytfnhmbflmifhcaagreat", sum := "3805fc61cf1d081352be33afce5e3b4d766a3b3033f42f08a9f0f28a2a76ba45", func := "bruit/bruitlaw20.GraphTurns", spec := "graphTurns", inPlace := ["internal/bytealg.IndexByteString"], unfollowed := true, recurses := true, plainKeys := false, apart := false }
def GraphTurnsSaid : Prop := graphTurnsRow.holds Tryz.pinned (OpenSpec.ofChange graphTurnsSpec)

/-- ITS FALSE NEIGHBOUR: 'it returns false'. Refute it at one input. -/
def graphTurnsWrong : ChangeSpec := { name := "graphTurns", fn := fun _ => fun
  | [d1, d2] => { results := [.lit (.bool false)], args := [d1, d2] }
  | _ => none }
def GraphTurnsWrongFalsely : Prop := graphTurnsRow.holds Tryz.pinned (OpenSpec.ofChange graphTurnsWrong)

/-- 'bruitlaw19.PcodeSays': WHATEVER THE INPUT: true; the input reads as it did. -/
def pcodeSaysSpec : ChangeSpec := { name := "pcodeSays", fn := fun _ => fun
  | [d1, d2] => { results := [.lit (.bool true)], args := [d1, d2] }
  | _ => none }
def pcodeSaysRow : OpenClaim := { program := "ytfnhmbflmifhcaagreat", sum := "3805fc61cf1d081352be33afce5e3b4d766a3b3033f42f08a9f0f28a2a76ba45", func := "bruit/bruitlaw19.PcodeSays", spec := "pcodeSays", inPlace := ["internal/bytealg.IndexByteString"], unfollowed := true, recurses := true, plainKeys := false, apart := false }
def PcodeSaysSaid : Prop := pcodeSaysRow.holds Tryz.pinned (OpenSpec.ofChange pcodeSaysSpec)

/-- ITS FALSE NEIGHBOUR: 'it returns false'. Refute it at one input. -/
def pcodeSaysWrong : ChangeSpec := { name := "pcodeSays", fn := fun _ => fun
  | [d1, d2] => { results := [.lit (.bool false)], args := [d1, d2] }
  | _ => none }
def PcodeSaysWrongFalsely : Prop := pcodeSaysRow.holds Tryz.pinned (OpenSpec.ofChange pcodeSaysWrong)

/-- 'bruitlaw21.LinesSay': WHATEVER THE INPUT: true; the input reads as it did. -/
def linesSaySpec : ChangeSpec := { name := "linesSay", fn := fun _ => fun
  | [d1, d2, d3] => { results := [.lit (.bool true)], args := [d1, d2, d3] }
  | _ => none }
def linesSayRow : OpenClaim := { program := "ytfnhmbflmifhcaagreat", sum := "3805fc61cf1d081352be33afce5e3b4d766a3b3033f42f08a9f0f28a2a76ba45", func := "bruit/bruitlaw21.LinesSay", spec := "linesSay", inPlace := ["internal/bytealg.IndexByteString"], unfollowed := true, recurses := true, plainKeys := false, apart := false }
def LinesSaySaid : Prop := linesSayRow.holds Tryz.pinned (OpenSpec.ofChange linesSaySpec)

/-- ITS FALSE NEIGHBOUR: 'it returns false'. Refute it at one input. -/
def linesSayWrong : ChangeSpec := { name := "linesSay", fn := fun _ => fun
  | [d1, d2, d3] => { results := [.lit (.bool false)], args := [d1, d2, d3] }
  | _ => none }
def LinesSayWrongFalsely : Prop := linesSayRow.holds Tryz.pinned (OpenSpec.ofChange linesSayWrong)

/-- 'bruitlaw21.LinesNil': WHATEVER THE INPUT: true; the input reads as it did. -/
def linesNilSpec : ChangeSpec := { name := "linesNil", fn := fun _ => fun
  | [d1, d2] => { results := [.lit (.bool true)], args := [d1, d2] }
  | _ => none }
def linesNilRow : OpenClaim := { program := "ytfnhmbflmifhcaagreat", sum := "3805fc61cf1d081352be33afce5e3b4d766a3b3033f42f08a9f0f28a2a76ba45", func := "bruit/bruitlaw21.LinesNil", spec := "linesNil", inPlace := ["internal/bytealg.IndexByteString"], unfollowed := true, recurses := true, plainKeys := false, apart := false }
def LinesNilSaid : Prop := linesNilRow.holds Tryz.pinned (OpenSpec.ofChange linesNilSpec)

/-- ITS FALSE NEIGHBOUR: 'it returns false'. Refute it at one input. -/
def linesNilWrong : ChangeSpec := { name := "linesNil", fn := fun _ => fun
  | [d1, d2] => { results := [.lit (.bool false)], args := [d1, d2] }
  | _ => none }
def LinesNilWrongFalsely : Prop := linesNilRow.holds Tryz.pinned (OpenSpec.ofChange linesNilWrong)

/-- 'bruitlaw21.LinesKeep': WHATEVER THE INPUT: true; the input reads as it did. -/
def linesKeepSpec : ChangeSpec := { name := "linesKeep", fn := fun _ => fun
  | [d1, d2] => { results := [.lit (.bool true)], args := [d1, d2] }
  | _ => none }
def linesKeepRow : OpenClaim := { program := "ytfnhmbflmifhcaagreat", sum := "3805fc61cf1d081352be33afce5e3b4d766a3b3033f42f08a9f0f28a2a76ba45", func := "bruit/bruitlaw21.LinesKeep", spec := "linesKeep", inPlace := ["internal/bytealg.IndexByteString"], unfollowed := true, recurses := true, plainKeys := false, apart := false }
def LinesKeepSaid : Prop := linesKeepRow.holds Tryz.pinned (OpenSpec.ofChange linesKeepSpec)

/-- ITS FALSE NEIGHBOUR: 'it returns false'. Refute it at one input. -/
def linesKeepWrong : ChangeSpec := { name := "linesKeep", fn := fun _ => fun
  | [d1, d2] => { results := [.lit (.bool false)], args := [d1, d2] }
  | _ => none }
def LinesKeepWrongFalsely : Prop := linesKeepRow.holds Tryz.pinned (OpenSpec.ofChange linesKeepWrong)

/- THE SECOND FORM. 'bulk': how many values and letters a reading holds, each counted each time it is reached (what is shared counts as often as it is met; a slice's spare places count too). A statement '..UptoSaid' is the law's where the arguments, and the package variables that the reading takes, are together of bulk at most 1048576: NARROWER than '..Said'. Prove '..Said' where nothing that the law and all that it calls make is longer than what came in: it says more and counts as full. Else prove '..UptoSaid'. A law counts once. -/
mutual
def uptoBulk {H : Type} : DataW H → Nat
  | .lit (.string bytes) => bytes.length + 1
  | .lit _ => 1
  | .nil => 1
  | .ptr d => uptoBulk d + 1
  | .slice elems spare => uptoBulkAll elems + uptoBulkAll spare + 1
  | .agg parts => uptoBulkAll parts + 1
  | .iface _ d => uptoBulk d + 1
  | .map entries => uptoBulkEntries entries + 1
  | .held _ => 1
def uptoBulkAll {H : Type} : List (DataW H) → Nat
  | [] => 0
  | d :: r => uptoBulk d + uptoBulkAll r
def uptoBulkEntries {H : Type} : List (Lit × DataW H) → Nat
  | [] => 0
  | x :: r => uptoBulkEntry x + uptoBulkEntries r
def uptoBulkEntry {H : Type} : Lit × DataW H → Nat
  | (.string bytes, d) => bytes.length + uptoBulk d + 1
  | (_, d) => uptoBulk d + 1
 end
def uptoSmall : (H : Type) → List (DataW H) → Bool := fun _ ds => decide (uptoBulkAll ds ≤ 1048576)
def OpenSpec.upto (s : _root_.Go.ChangeSpec) : _root_.Go.OpenSpec := { _root_.Go.OpenSpec.ofChange s with cond := some uptoSmall }

/-- 'bruitlaw20.GraphPlays', WHERE WHAT IT READS IS OF BULK AT MOST 1048576: true; the input reads as it did. -/
def graphPlaysUptoRow : OpenClaim := { program := "ytfnhmbflmifhcaagreat", sum := "3805fc61cf1d081352be33afce5e3b4d766a3b3033f42f08a9f0f28a2a76ba45", func := "bruit/bruitlaw20.GraphPlays", spec := "graphPlays", inPlace := ["internal/bytealg.IndexByteString"], unfollowed := true, recurses := true, plainKeys := false, apart := false, narrowed := true }
def GraphPlaysUptoSaid : Prop := graphPlaysUptoRow.holds Tryz.pinned (OpenSpec.upto graphPlaysSpec)

/-- 'bruitlaw20.GraphAsks', WHERE WHAT IT READS IS OF BULK AT MOST 1048576: true; the input reads as it did. -/
def graphAsksUptoRow : OpenClaim := { program := "ytfnhmbflmifhcaagreat", sum := "3805fc61cf1d081352be33afce5e3b4d766a3b3033f42f08a9f0f28a2a76ba45", func := "bruit/bruitlaw20.GraphAsks", spec := "graphAsks", inPlace := ["internal/bytealg.IndexByteString"], unfollowed := true, recurses := true, plainKeys := false, apart := false, narrowed := true }
def GraphAsksUptoSaid : Prop := graphAsksUptoRow.holds Tryz.pinned (OpenSpec.upto graphAsksSpec)

/-- 'bruitlaw20.GraphWhole', WHERE WHAT IT READS IS OF BULK AT MOST 1048576: true; the input reads as it did. -/
def graphWholeUptoRow : OpenClaim := { program := "ytfnhmbflmifhcaagreat", sum := "3805fc61cf1d081352be33afce5e3b4d766a3b3033f42f08a9f0f28a2a76ba45", func := "bruit/bruitlaw20.GraphWhole", spec := "graphWhole", inPlace := ["internal/bytealg.IndexByteString"], unfollowed := true, recurses := true, plainKeys := false, apart := false, narrowed := true }
def GraphWholeUptoSaid : Prop := graphWholeUptoRow.holds Tryz.pinned (OpenSpec.upto graphWholeSpec)

/-- 'bruitlaw20.GraphTurns', WHERE WHAT IT READS IS OF BULK AT MOST 1048576: true; the input reads as it did. -/
def graphTurnsUptoRow : OpenClaim := { program := "ytfnhmbflmifhcaagreat", sum := "3805fc61cf1d081352be33afce5e3b4d766a3b3033f42f08a9f0f28a2a76ba45", func := "bruit/bruitlaw20.GraphTurns", spec := "graphTurns", inPlace := ["internal/bytealg.IndexByteString"], unfollowed := true, recurses := true, plainKeys := false, apart := false, narrowed := true }
def GraphTurnsUptoSaid : Prop := graphTurnsUptoRow.holds Tryz.pinned (OpenSpec.upto graphTurnsSpec)

/-- 'bruitlaw19.PcodeSays', WHERE WHAT IT READS IS OF BULK AT MOST 1048576: true; the input reads as it did. -/
def pcodeSaysUptoRow : OpenClaim := { program := "ytfnhmbflmifhcaagreat", sum := "3805fc61cf1d081352be33afce5e3b4d766a3b3033f42f08a9f0f28a2a76ba45", func := "bruit/bruitlaw19.PcodeSays", spec := "pcodeSays", inPlace := ["internal/bytealg.IndexByteString"], unfollowed := true, recurses := true, plainKeys := false, apart := false, narrowed := true }
def PcodeSaysUptoSaid : Prop := pcodeSaysUptoRow.holds Tryz.pinned (OpenSpec.upto pcodeSaysSpec)

/-- 'bruitlaw21.LinesSay', WHERE WHAT IT READS IS OF BULK AT MOST 1048576: true; the input reads as it did. -/
def linesSayUptoRow : OpenClaim := { program := "ytfnhmbflmifhcaagreat", sum := "3805fc61cf1d081352be33afce5e3b4d766a3b3033f42f08a9f0f28a2a76ba45", func := "bruit/bruitlaw21.LinesSay", spec := "linesSay", inPlace := ["internal/bytealg.IndexByteString"], unfollowed := true, recurses := true, plainKeys := false, apart := false, narrowed := true }
def LinesSayUptoSaid : Prop := linesSayUptoRow.holds Tryz.pinned (OpenSpec.upto linesSaySpec)

/-- 'bruitlaw21.LinesNil', WHERE WHAT IT READS IS OF BULK AT MOST 1048576: true; the input reads as it did. -/
def linesNilUptoRow : OpenClaim := { program := "ytfnhmbflmifhcaagreat", sum := "3805fc61cf1d081352be33afce5e3b4d766a3b3033f42f08a9f0f28a2a76ba45", func := "bruit/bruitlaw21.LinesNil", spec := "linesNil", inPlace := ["internal/bytealg.IndexByteString"], unfollowed := true, recurses := true, plainKeys := false, apart := false, narrowed := true }
def LinesNilUptoSaid : Prop := linesNilUptoRow.holds Tryz.pinned (OpenSpec.upto linesNilSpec)

/-- 'bruitlaw21.LinesKeep', WHERE WHAT IT READS IS OF BULK AT MOST 1048576: true; the input reads as it did. -/
def linesKeepUptoRow : OpenClaim := { program := "ytfnhmbflmifhcaagreat", sum := "3805fc61cf1d081352be33afce5e3b4d766a3b3033f42f08a9f0f28a2a76ba45", func := "bruit/bruitlaw21.LinesKeep", spec := "linesKeep", inPlace := ["internal/bytealg.IndexByteString"], unfollowed := true, recurses := true, plainKeys := false, apart := false, narrowed := true }
def LinesKeepUptoSaid : Prop := linesKeepUptoRow.holds Tryz.pinned (OpenSpec.upto linesKeepSpec)

end Rows
end Go.Proofs.YtfnhmbflmifhcaaGreat
