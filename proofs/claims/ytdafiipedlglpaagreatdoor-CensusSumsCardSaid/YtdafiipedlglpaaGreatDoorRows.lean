/-
  NARROWER THAN 'FOR EVERY INPUT', by the rows' own cells (each row's printed sentence says how): MsgGood: laid · MsgBytes: laid · MsgBack: laid · MsgSpoilt: laid · LogPlays: laid · LogReads: laid · LogKeeps: laid · CensusCounts: laid · CensusSums: laid · CensusTexts: laid.
  DERIVED. THE GIVEN ROWS OF THIS SEAT. 10 by the template 'for every input the law returns true; each argument reads behind the call as it read before'; 0 by the template 'total and deterministic' (their statements: YtdafiipedlglpaaGreatDoorTotals.lean).
  GIVEN WITH THE SEED: the statements are not yours to turn. If you find one false, say at which input.
  Laid BY PROGRAM, IN A SANDBOX (cutbox-rows.mjs): the forced cells as the released guide's own fill.sh prints them over the translation 43c68f2dd96a8cca… (all of the seat's roots in one cut). By AI agents, Wed Nov 11 2026. No macro, syntax, notation, axiom, sorry.
-/
import Derived.Test.YtdafiipedlglpaaGreatDoorChecked
import GoSem.Claim
import GoSem.ClaimJoined
import GoSem.ClaimMapViews
import Derived.JoinedTies
import Derived.KernelRfl
namespace Go.Proofs.YtdafiipedlglpaaGreatDoor
/- THE CELL 'sum', in the pinned program and in every row, IS THE sha256 OF THE DUMP (.gsa) THAT YtdafiipedlglpaaGreatDoorProg.lean LOADS. Nothing in Lean hashes anything: it is a label: what it is worth is what the hold of that sum in a sandbox is worth. -/
noncomputable def Tryz.pinned : Pinned := { name := "ytdafiipedlglpaagreatdoor", sum := "43c68f2dd96a8cca018109fc772fe4021f212633dcd44761d1a540ef1a18ec19", checked := Tryz.checked }
namespace Rows
def none {H : Type} : Left H := { results := [], args := [] }

/- WHAT THE LISTED PACKAGE-LEVEL VARIABLES READ AS WHEN THE CALL BEGINS. Each datum BY PROGRAM (the guide's laid-datum.mjs) off the statement by which the dump's own 'gosem.cut.vars' lays the variable. In a bare row this is a premise. The card (YtdafiipedlglpaaGreatDoorCards.lean) ties it to the program's text. -/
def laid_bruit_crc_four {H : Type} : DataW H := .agg [.lit (.int .u32 0), .lit (.int .u32 79764919), .lit (.int .u32 159529838), .lit (.int .u32 222504665), .lit (.int .u32 319059676), .lit (.int .u32 398814059), .lit (.int .u32 445009330), .lit (.int .u32 507990021), .lit (.int .u32 638119352), .lit (.int .u32 583659535), .lit (.int .u32 797628118), .lit (.int .u32 726387553), .lit (.int .u32 890018660), .lit (.int .u32 835552979), .lit (.int .u32 1015980042), .lit (.int .u32 944750013)]
def laid_math_bits_deBruijn32tab {H : Type} : DataW H := .agg [.lit (.int .u8 0), .lit (.int .u8 1), .lit (.int .u8 28), .lit (.int .u8 2), .lit (.int .u8 29), .lit (.int .u8 14), .lit (.int .u8 24), .lit (.int .u8 3), .lit (.int .u8 30), .lit (.int .u8 22), .lit (.int .u8 20), .lit (.int .u8 15), .lit (.int .u8 25), .lit (.int .u8 17), .lit (.int .u8 4), .lit (.int .u8 8), .lit (.int .u8 31), .lit (.int .u8 27), .lit (.int .u8 13), .lit (.int .u8 23), .lit (.int .u8 21), .lit (.int .u8 19), .lit (.int .u8 16), .lit (.int .u8 7), .lit (.int .u8 26), .lit (.int .u8 12), .lit (.int .u8 18), .lit (.int .u8 6), .lit (.int .u8 11), .lit (.int .u8 5), .lit (.int .u8 10), .lit (.int .u8 9)]
def laid_math_bits_deBruijn64tab {H : Type} : DataW H := .agg [.lit (.int .u8 0), .lit (.int .u8 1), .lit (.int .u8 56), .lit (.int .u8 2), .lit (.int .u8 57), .lit (.int .u8 49), .lit (.int .u8 28), .lit (.int .u8 3), .lit (.int .u8 61), .lit (.int .u8 58), .lit (.int .u8 42), .lit (.int .u8 50), .lit (.int .u8 38), .lit (.int .u8 29), .lit (.int .u8 17), .lit (.int .u8 4), .lit (.int .u8 62), .lit (.int .u8 47), .lit (.int .u8 59), .lit (.int .u8 36), .lit (.int .u8 45), .lit (.int .u8 43), .lit (.int .u8 51), .lit (.int .u8 22), .lit (.int .u8 53), .lit (.int .u8 39), .lit (.int .u8 33), .lit (.int .u8 30), .lit (.int .u8 24), .lit (.int .u8 18), .lit (.int .u8 12), .lit (.int .u8 5), .lit (.int .u8 63), .lit (.int .u8 55), .lit (.int .u8 48), .lit (.int .u8 27), .lit (.int .u8 60), .lit (.int .u8 41), .lit (.int .u8 37), .lit (.int .u8 16), .lit (.int .u8 46), .lit (.int .u8 35), .lit (.int .u8 44), .lit (.int .u8 21), .lit (.int .u8 52), .lit (.int .u8 32), .lit (.int .u8 23), .lit (.int .u8 11), .lit (.int .u8 54), .lit (.int .u8 26), .lit (.int .u8 40), .lit (.int .u8 15), .lit (.int .u8 34), .lit (.int .u8 20), .lit (.int .u8 31), .lit (.int .u8 10), .lit (.int .u8 25), .lit (.int .u8 14), .lit (.int .u8 19), .lit (.int .u8 9), .lit (.int .u8 13), .lit (.int .u8 8), .lit (.int .u8 7), .lit (.int .u8 6)]
def laid_internal_strconv_uint64pow10 {H : Type} : DataW H := .agg [.lit (.int .u64 1), .lit (.int .u64 10), .lit (.int .u64 100), .lit (.int .u64 1000), .lit (.int .u64 10000), .lit (.int .u64 100000), .lit (.int .u64 1000000), .lit (.int .u64 10000000), .lit (.int .u64 100000000), .lit (.int .u64 1000000000), .lit (.int .u64 10000000000), .lit (.int .u64 100000000000), .lit (.int .u64 1000000000000), .lit (.int .u64 10000000000000), .lit (.int .u64 100000000000000), .lit (.int .u64 1000000000000000), .lit (.int .u64 10000000000000000), .lit (.int .u64 100000000000000000), .lit (.int .u64 1000000000000000000), .lit (.int .u64 10000000000000000000)]

/-- 'bruitlaw34.MsgGood': WHATEVER THE INPUT: true; the input reads as it did. -/
def msgGoodSpec : ChangeSpec := { name := "msgGood", fn := fun _ => fun
  | [d1, d2] => { results := [.lit (.bool true)], args := [d1, d2] }
  | _ => none }
def msgGoodRow : OpenClaim := { program := "ytdafiipedlglpaagreatdoor", sum := "43c68f2dd96a8cca018109fc772fe4021f212633dcd44761d1a540ef1a18ec19", func := "bruit/bruitlaw34.MsgGood", spec := "msgGood", inPlace := ["internal/bytealg.IndexByteString"], unfollowed := true, recurses := true, named := ["bruit/crc.four"], plainKeys := false, apart := false, laid := [("bruit/crc.four", laid_bruit_crc_four)] }
def MsgGoodSaid : Prop := msgGoodRow.holds Tryz.pinned (OpenSpec.ofChange msgGoodSpec)

/-- ITS FALSE NEIGHBOUR: 'it returns false'. Refute it at one input. -/
def msgGoodWrong : ChangeSpec := { name := "msgGood", fn := fun _ => fun
  | [d1, d2] => { results := [.lit (.bool false)], args := [d1, d2] }
  | _ => none }
def MsgGoodWrongFalsely : Prop := msgGoodRow.holds Tryz.pinned (OpenSpec.ofChange msgGoodWrong)

/-- 'bruitlaw34.MsgBytes': WHATEVER THE INPUT: true; the input reads as it did. -/
def msgBytesSpec : ChangeSpec := { name := "msgBytes", fn := fun _ => fun
  | [d1, d2, d3] => { results := [.lit (.bool true)], args := [d1, d2, d3] }
  | _ => none }
def msgBytesRow : OpenClaim := { program := "ytdafiipedlglpaagreatdoor", sum := "43c68f2dd96a8cca018109fc772fe4021f212633dcd44761d1a540ef1a18ec19", func := "bruit/bruitlaw34.MsgBytes", spec := "msgBytes", inPlace := ["internal/bytealg.IndexByteString"], unfollowed := true, recurses := true, named := ["bruit/crc.four"], plainKeys := false, apart := false, laid := [("bruit/crc.four", laid_bruit_crc_four)] }
def MsgBytesSaid : Prop := msgBytesRow.holds Tryz.pinned (OpenSpec.ofChange msgBytesSpec)

/-- ITS FALSE NEIGHBOUR: 'it returns false'. Refute it at one input. -/
def msgBytesWrong : ChangeSpec := { name := "msgBytes", fn := fun _ => fun
  | [d1, d2, d3] => { results := [.lit (.bool false)], args := [d1, d2, d3] }
  | _ => none }
def MsgBytesWrongFalsely : Prop := msgBytesRow.holds Tryz.pinned (OpenSpec.ofChange msgBytesWrong)

/-- 'bruitlaw34.MsgBack': WHATEVER THE INPUT: true; the input reads as it did. -/
def msgBackSpec : ChangeSpec := { name := "msgBack", fn := fun _ => fun
  | [d1, d2] => { results := [.lit (.bool true)], args := [d1, d2] }
  | _ => none }
def msgBackRow : OpenClaim := { program := "ytdafiipedlglpaagreatdoor", sum := "43c68f2dd96a8cca018109fc772fe4021f212633dcd44761d1a540ef1a18ec19", func := "bruit/bruitlaw34.MsgBack", spec := "msgBack", inPlace := ["internal/bytealg.IndexByteString"], unfollowed := true, recurses := true, named := ["bruit/crc.four"], plainKeys := false, apart := false, laid := [("bruit/crc.four", laid_bruit_crc_four)] }
def MsgBackSaid : Prop := msgBackRow.holds Tryz.pinned (OpenSpec.ofChange msgBackSpec)

/-- ITS FALSE NEIGHBOUR: 'it returns false'. Refute it at one input. -/
def msgBackWrong : ChangeSpec := { name := "msgBack", fn := fun _ => fun
  | [d1, d2] => { results := [.lit (.bool false)], args := [d1, d2] }
  | _ => none }
def MsgBackWrongFalsely : Prop := msgBackRow.holds Tryz.pinned (OpenSpec.ofChange msgBackWrong)

/-- 'bruitlaw34.MsgSpoilt': WHATEVER THE INPUT: true; the input reads as it did. -/
def msgSpoiltSpec : ChangeSpec := { name := "msgSpoilt", fn := fun _ => fun
  | [d1, d2, d3] => { results := [.lit (.bool true)], args := [d1, d2, d3] }
  | _ => none }
def msgSpoiltRow : OpenClaim := { program := "ytdafiipedlglpaagreatdoor", sum := "43c68f2dd96a8cca018109fc772fe4021f212633dcd44761d1a540ef1a18ec19", func := "bruit/bruitlaw34.MsgSpoilt", spec := "msgSpoilt", inPlace := ["internal/bytealg.IndexByteString"], unfollowed := true, recurses := true, named := ["bruit/crc.four"], plainKeys := false, apart := false, laid := [("bruit/crc.four", laid_bruit_crc_four)] }
def MsgSpoiltSaid : Prop := msgSpoiltRow.holds Tryz.pinned (OpenSpec.ofChange msgSpoiltSpec)

/-- ITS FALSE NEIGHBOUR: 'it returns false'. Refute it at one input. -/
def msgSpoiltWrong : ChangeSpec := { name := "msgSpoilt", fn := fun _ => fun
  | [d1, d2, d3] => { results := [.lit (.bool false)], args := [d1, d2, d3] }
  | _ => none }
def MsgSpoiltWrongFalsely : Prop := msgSpoiltRow.holds Tryz.pinned (OpenSpec.ofChange msgSpoiltWrong)

/-- 'bruitlaw30.LogPlays': WHATEVER THE INPUT: true; the input reads as it did. -/
def logPlaysSpec : ChangeSpec := { name := "logPlays", fn := fun _ => fun
  | [d] => { results := [.lit (.bool true)], args := [d] }
  | _ => none }
def logPlaysRow : OpenClaim := { program := "ytdafiipedlglpaagreatdoor", sum := "43c68f2dd96a8cca018109fc772fe4021f212633dcd44761d1a540ef1a18ec19", func := "bruit/bruitlaw30.LogPlays", spec := "logPlays", inPlace := ["internal/bytealg.IndexByteString"], unfollowed := true, recurses := true, named := ["bruit/crc.four"], plainKeys := false, apart := false, laid := [("bruit/crc.four", laid_bruit_crc_four)] }
def LogPlaysSaid : Prop := logPlaysRow.holds Tryz.pinned (OpenSpec.ofChange logPlaysSpec)

/-- ITS FALSE NEIGHBOUR: 'it returns false'. Refute it at one input. -/
def logPlaysWrong : ChangeSpec := { name := "logPlays", fn := fun _ => fun
  | [d] => { results := [.lit (.bool false)], args := [d] }
  | _ => none }
def LogPlaysWrongFalsely : Prop := logPlaysRow.holds Tryz.pinned (OpenSpec.ofChange logPlaysWrong)

/-- 'bruitlaw30.LogReads': WHATEVER THE INPUT: true; the input reads as it did. -/
def logReadsSpec : ChangeSpec := { name := "logReads", fn := fun _ => fun
  | [d1, d2] => { results := [.lit (.bool true)], args := [d1, d2] }
  | _ => none }
def logReadsRow : OpenClaim := { program := "ytdafiipedlglpaagreatdoor", sum := "43c68f2dd96a8cca018109fc772fe4021f212633dcd44761d1a540ef1a18ec19", func := "bruit/bruitlaw30.LogReads", spec := "logReads", inPlace := ["internal/bytealg.IndexByteString"], unfollowed := true, recurses := true, named := ["bruit/crc.four"], plainKeys := false, apart := false, laid := [("bruit/crc.four", laid_bruit_crc_four)] }
def LogReadsSaid : Prop := logReadsRow.holds Tryz.pinned (OpenSpec.ofChange logReadsSpec)

/-- ITS FALSE NEIGHBOUR: 'it returns false'. Refute it at one input. -/
def logReadsWrong : ChangeSpec := { name := "logReads", fn := fun _ => fun
  | [d1, d2] => { results := [.lit (.bool false)], args := [d1, d2] }
  | _ => none }
def LogReadsWrongFalsely : Prop := logReadsRow.holds Tryz.pinned (OpenSpec.ofChange logReadsWrong)

/-- 'bruitlaw30.LogKeeps': WHATEVER THE INPUT: true; the input reads as it did. -/
def logKeepsSpec : ChangeSpec := { name := "logKeeps", fn := fun _ => fun
  | [d1, d2, d3] => { results := [.lit (.bool true)], args := [d1, d2, d3] }
  | _ => none }
def logKeepsRow : OpenClaim := { program := "ytdafiipedlglpaagreatdoor", sum := "43c68f2dd96a8cca018109fc772fe4021f212633dcd44761d1a540ef1a18ec19", func := "bruit/bruitlaw30.LogKeeps", spec := "logKeeps", inPlace := ["internal/bytealg.IndexByteString"], unfollowed := true, recurses := true, named := ["bruit/crc.four"], plainKeys := false, apart := false, laid := [("bruit/crc.four", laid_bruit_crc_four)] }
def LogKeepsSaid : Prop := logKeepsRow.holds Tryz.pinned (OpenSpec.ofChange logKeepsSpec)

/-- ITS FALSE NEIGHBOUR: 'it returns false'. Refute it at one input. -/
def logKeepsWrong : ChangeSpec := { name := "logKeeps", fn := fun _ => fun
  | [d1, d2, d3] => { results := [.lit (.bool false)], args := [d1, d2, d3] }
  | _ => none }
def LogKeepsWrongFalsely : Prop := logKeepsRow.holds Tryz.pinned (OpenSpec.ofChange logKeepsWrong)

/-- 'bruitlaw54.CensusCounts': WHATEVER THE INPUT: true; the input reads as it did. -/
def censusCountsSpec : ChangeSpec := { name := "censusCounts", fn := fun _ => fun
  | [d] => { results := [.lit (.bool true)], args := [d] }
  | _ => none }
def censusCountsRow : OpenClaim := { program := "ytdafiipedlglpaagreatdoor", sum := "43c68f2dd96a8cca018109fc772fe4021f212633dcd44761d1a540ef1a18ec19", func := "bruit/bruitlaw54.CensusCounts", spec := "censusCounts", inPlace := ["internal/bytealg.IndexByteString", "internal/abi.NoEscape"], unfollowed := true, recurses := true, named := ["internal/strconv.uint64pow10", "math/bits.deBruijn32tab", "math/bits.deBruijn64tab"], plainKeys := false, apart := false, laid := [("math/bits.deBruijn32tab", laid_math_bits_deBruijn32tab), ("math/bits.deBruijn64tab", laid_math_bits_deBruijn64tab), ("internal/strconv.uint64pow10", laid_internal_strconv_uint64pow10)] }
def CensusCountsSaid : Prop := censusCountsRow.holds Tryz.pinned (OpenSpec.ofChange censusCountsSpec)

/-- ITS FALSE NEIGHBOUR: 'it returns false'. Refute it at one input. -/
def censusCountsWrong : ChangeSpec := { name := "censusCounts", fn := fun _ => fun
  | [d] => { results := [.lit (.bool false)], args := [d] }
  | _ => none }
def CensusCountsWrongFalsely : Prop := censusCountsRow.holds Tryz.pinned (OpenSpec.ofChange censusCountsWrong)

/-- 'bruitlaw54.CensusSums': WHATEVER THE INPUT: true; the input reads as it did. -/
def censusSumsSpec : ChangeSpec := { name := "censusSums", fn := fun _ => fun
  | [d] => { results := [.lit (.bool true)], args := [d] }
  | _ => none }
def censusSumsRow : OpenClaim := { program := "ytdafiipedlglpaagreatdoor", sum := "43c68f2dd96a8cca018109fc772fe4021f212633dcd44761d1a540ef1a18ec19", func := "bruit/bruitlaw54.CensusSums", spec := "censusSums", inPlace := ["internal/bytealg.IndexByteString", "internal/abi.NoEscape"], unfollowed := true, recurses := true, named := ["internal/strconv.uint64pow10", "math/bits.deBruijn32tab", "math/bits.deBruijn64tab"], plainKeys := false, apart := false, laid := [("math/bits.deBruijn32tab", laid_math_bits_deBruijn32tab), ("math/bits.deBruijn64tab", laid_math_bits_deBruijn64tab), ("internal/strconv.uint64pow10", laid_internal_strconv_uint64pow10)] }
def CensusSumsSaid : Prop := censusSumsRow.holds Tryz.pinned (OpenSpec.ofChange censusSumsSpec)

/-- ITS FALSE NEIGHBOUR: 'it returns false'. Refute it at one input. -/
def censusSumsWrong : ChangeSpec := { name := "censusSums", fn := fun _ => fun
  | [d] => { results := [.lit (.bool false)], args := [d] }
  | _ => none }
def CensusSumsWrongFalsely : Prop := censusSumsRow.holds Tryz.pinned (OpenSpec.ofChange censusSumsWrong)

/-- 'bruitlaw54.CensusTexts': WHATEVER THE INPUT: true; the input reads as it did. -/
def censusTextsSpec : ChangeSpec := { name := "censusTexts", fn := fun _ => fun
  | [d] => { results := [.lit (.bool true)], args := [d] }
  | _ => none }
def censusTextsRow : OpenClaim := { program := "ytdafiipedlglpaagreatdoor", sum := "43c68f2dd96a8cca018109fc772fe4021f212633dcd44761d1a540ef1a18ec19", func := "bruit/bruitlaw54.CensusTexts", spec := "censusTexts", inPlace := ["internal/bytealg.IndexByteString", "internal/abi.NoEscape"], unfollowed := true, recurses := true, named := ["internal/strconv.uint64pow10", "math/bits.deBruijn32tab", "math/bits.deBruijn64tab"], plainKeys := false, apart := false, laid := [("math/bits.deBruijn32tab", laid_math_bits_deBruijn32tab), ("math/bits.deBruijn64tab", laid_math_bits_deBruijn64tab), ("internal/strconv.uint64pow10", laid_internal_strconv_uint64pow10)] }
def CensusTextsSaid : Prop := censusTextsRow.holds Tryz.pinned (OpenSpec.ofChange censusTextsSpec)

/-- ITS FALSE NEIGHBOUR: 'it returns false'. Refute it at one input. -/
def censusTextsWrong : ChangeSpec := { name := "censusTexts", fn := fun _ => fun
  | [d] => { results := [.lit (.bool false)], args := [d] }
  | _ => none }
def CensusTextsWrongFalsely : Prop := censusTextsRow.holds Tryz.pinned (OpenSpec.ofChange censusTextsWrong)

/- THE SECOND FORM. 'bulk': how many values and letters a reading holds, each counted each time it is reached (what is shared counts as often as it is met; a slice's spare places count too). A statement '..UptoSaid' is the law's where the arguments, and the package variables that the reading takes, are together of bulk at most 1048576: NARROWER than '..Said'. Prove '..Said' where nothing that the law and all that it calls make is longer than what came in: it says more and counts as full. Else prove '..UptoSaid'. A law counts once. -/
mutual
def uptoBulk {H : Type} : DataW H → Nat
  | .lit (.string bytes) => bytes.length + 1
  | .lit _ => 1
  | .nil => 1
  | .ptr d => uptoBulk d + 1
  | .slice elems spare => uptoBulkAll elems + uptoBulkAll spare + 1
  | .agg parts => uptoBulkAll parts + 1
  | .iface _ d => uptoBulk d + 1
  | .map entries => uptoBulkEntries entries + 1
  | .held _ => 1
def uptoBulkAll {H : Type} : List (DataW H) → Nat
  | [] => 0
  | d :: r => uptoBulk d + uptoBulkAll r
def uptoBulkEntries {H : Type} : List (Lit × DataW H) → Nat
  | [] => 0
  | x :: r => uptoBulkEntry x + uptoBulkEntries r
def uptoBulkEntry {H : Type} : Lit × DataW H → Nat
  | (.string bytes, d) => bytes.length + uptoBulk d + 1
  | (_, d) => uptoBulk d + 1
 end
def uptoSmall : (H : Type) → List (DataW H) → Bool := fun _ ds => decide (uptoBulkAll ds ≤ 1048576)
def OpenSpec.upto (s : _root_.Go.ChangeSpec) : _root_.Go.OpenSpec := { _root_.Go.OpenSpec.ofChange s with cond := some uptoSmall }

/-- 'bruitlaw34.MsgGood', WHERE WHAT IT READS IS OF BULK AT MOST 1048576: true; the input reads as it did. -/
def msgGoodUptoRow : OpenClaim := { program := "ytdafiipedlglpaagreatdoor", sum := "43c68f2dd96a8cca018109fc772fe4021f212633dcd44761d1a540ef1a18ec19", func := "bruit/bruitlaw34.MsgGood", spec := "msgGood", inPlace := ["internal/bytealg.IndexByteString"], unfollowed := true, recurses := true, named := ["bruit/crc.four"], plainKeys := false, apart := false, laid := [("bruit/crc.four", laid_bruit_crc_four)], narrowed := true }
def MsgGoodUptoSaid : Prop := msgGoodUptoRow.holds Tryz.pinned (OpenSpec.upto msgGoodSpec)

/-- 'bruitlaw34.MsgBytes', WHERE WHAT IT READS IS OF BULK AT MOST 1048576: true; the input reads as it did. -/
def msgBytesUptoRow : OpenClaim := { program := "ytdafiipedlglpaagreatdoor", sum := "43c68f2dd96a8cca018109fc772fe4021f212633dcd44761d1a540ef1a18ec19", func := "bruit/bruitlaw34.MsgBytes", spec := "msgBytes", inPlace := ["internal/bytealg.IndexByteString"], unfollowed := true, recurses := true, named := ["bruit/crc.four"], plainKeys := false, apart := false, laid := [("bruit/crc.four", laid_bruit_crc_four)], narrowed := true }
def MsgBytesUptoSaid : Prop := msgBytesUptoRow.holds Tryz.pinned (OpenSpec.upto msgBytesSpec)

/-- 'bruitlaw34.MsgBack', WHERE WHAT IT READS IS OF BULK AT MOST 1048576: true; the input reads as it did. -/
def msgBackUptoRow : OpenClaim := { program := "ytdafiipedlglpaagreatdoor", sum := "43c68f2dd96a8cca018109fc772fe4021f212633dcd44761d1a540ef1a18ec19", func := "bruit/bruitlaw34.MsgBack", spec := "msgBack", inPlace := ["internal/bytealg.IndexByteString"], unfollowed := true, recurses := true, named := ["bruit/crc.four"], plainKeys := false, apart := false, laid := [("bruit/crc.four", laid_bruit_crc_four)], narrowed := true }
def MsgBackUptoSaid : Prop := msgBackUptoRow.holds Tryz.pinned (OpenSpec.upto msgBackSpec)

/-- 'bruitlaw34.MsgSpoilt', WHERE WHAT IT READS IS OF BULK AT MOST 1048576: true; the input reads as it did. -/
def msgSpoiltUptoRow : OpenClaim := { program := "ytdafiipedlglpaagreatdoor", sum := "43c68f2dd96a8cca018109fc772fe4021f212633dcd44761d1a540ef1a18ec19", func := "bruit/bruitlaw34.MsgSpoilt", spec := "msgSpoilt", inPlace := ["internal/bytealg.IndexByteString"], unfollowed := true, recurses := true, named := ["bruit/crc.four"], plainKeys := false, apart := false, laid := [("bruit/crc.four", laid_bruit_crc_four)], narrowed := true }
def MsgSpoiltUptoSaid : Prop := msgSpoiltUptoRow.holds Tryz.pinned (OpenSpec.upto msgSpoiltSpec)

/-- 'bruitlaw30.LogPlays', WHERE WHAT IT READS IS OF BULK AT MOST 1048576: true; the input reads as it did. -/
def logPlaysUptoRow : OpenClaim := { program := "ytdafiipedlglpaagreatdoor", sum := "43c68f2dd96a8cca018109fc772fe4021f212633dcd44761d1a540ef1a18ec19", func := "bruit/bruitlaw30.LogPlays", spec := "logPlays", inPlace := ["internal/bytealg.IndexByteString"], unfollowed := true, recurses := true, named := ["bruit/crc.four"], plainKeys := false, apart := false, laid := [("bruit/crc.four", laid_bruit_crc_four)], narrowed := true }
def LogPlaysUptoSaid : Prop := logPlaysUptoRow.holds Tryz.pinned (OpenSpec.upto logPlaysSpec)

/-- 'bruitlaw30.LogReads', WHERE WHAT IT READS IS OF BULK AT MOST 1048576: true; the input reads as it did. -/
def logReadsUptoRow : OpenClaim := { program := "ytdafiipedlglpaagreatdoor", sum := "43c68f2dd96a8cca018109fc772fe4021f212633dcd44761d1a540ef1a18ec19", func := "bruit/bruitlaw30.LogReads", spec := "logReads", inPlace := ["internal/bytealg.IndexByteString"], unfollowed := true, recurses := true, named := ["bruit/crc.four"], plainKeys := false, apart := false, laid := [("bruit/crc.four", laid_bruit_crc_four)], narrowed := true }
def LogReadsUptoSaid : Prop := logReadsUptoRow.holds Tryz.pinned (OpenSpec.upto logReadsSpec)

/-- 'bruitlaw30.LogKeeps', WHERE WHAT IT READS IS OF BULK AT MOST 1048576: true; the input reads as it did. -/
def logKeepsUptoRow : OpenClaim := { program := "ytdafiipedlglpaagreatdoor", sum := "43c68f2dd96a8cca018109fc772fe4021f212633dcd44761d1a540ef1a18ec19", func := "bruit/bruitlaw30.LogKeeps", spec := "logKeeps", inPlace := ["internal/bytealg.IndexByteString"], unfollowed := true, recurses := true, named := ["bruit/crc.four"], plainKeys := false, apart := false, laid := [("bruit/crc.four", laid_bruit_crc_four)], narrowed := true }
def LogKeepsUptoSaid : Prop := logKeepsUptoRow.holds Tryz.pinned (OpenSpec.upto logKeepsSpec)

/-- 'bruitlaw54.CensusCounts', WHERE WHAT IT READS IS OF BULK AT MOST 1048576: true; the input reads as it did. -/
def censusCountsUptoRow : OpenClaim := { program := "ytdafiipedlglpaagreatdoor", sum := "43c68f2dd96a8cca018109fc772fe4021f212633dcd44761d1a540ef1a18ec19", func := "bruit/bruitlaw54.CensusCounts", spec := "censusCounts", inPlace := ["internal/bytealg.IndexByteString", "internal/abi.NoEscape"], unfollowed := true, recurses := true, named := ["internal/strconv.uint64pow10", "math/bits.deBruijn32tab", "math/bits.deBruijn64tab"], plainKeys := false, apart := false, laid := [("math/bits.deBruijn32tab", laid_math_bits_deBruijn32tab), ("math/bits.deBruijn64tab", laid_math_bits_deBruijn64tab), ("internal/strconv.uint64pow10", laid_internal_strconv_uint64pow10)], narrowed := true }
def CensusCountsUptoSaid : Prop := censusCountsUptoRow.holds Tryz.pinned (OpenSpec.upto censusCountsSpec)

/-- 'bruitlaw54.CensusSums', WHERE WHAT IT READS IS OF BULK AT MOST 1048576: true; the input reads as it did. -/
def censusSumsUptoRow : OpenClaim := { program := "ytdafiipedlglpaagreatdoor", sum := "43c68f2dd96a8cca018109fc772fe4021f212633dcd44761d1a540ef1a18ec19", func := "bruit/bruitlaw54.CensusSums", spec := "censusSums", inPlace := ["internal/bytealg.IndexByteString", "internal/abi.NoEscape"], unfollowed := true, recurses := true, named := ["internal/strconv.uint64pow10", "math/bits.deBruijn32tab", "math/bits.deBruijn64tab"], plainKeys := false, apart := false, laid := [("math/bits.deBruijn32tab", laid_math_bits_deBruijn32tab), ("math/bits.deBruijn64tab", laid_math_bits_deBruijn64tab), ("internal/strconv.uint64pow10", laid_internal_strconv_uint64pow10)], narrowed := true }
def CensusSumsUptoSaid : Prop := censusSumsUptoRow.holds Tryz.pinned (OpenSpec.upto censusSumsSpec)

/-- 'bruitlaw54.CensusTexts', WHERE WHAT IT READS IS OF BULK AT MOST 1048576: true; the input reads as it did. -/
def censusTextsUptoRow : OpenClaim := { program := "ytdafiipedlglpaagreatdoor", sum := "43c68f2dd96a8cca018109fc772fe4021f212633dcd44761d1a540ef1a18ec19", func := "bruit/bruitlaw54.CensusTexts", spec := "censusTexts", inPlace := ["internal/bytealg.IndexByteString", "internal/abi.NoEscape"], unfollowed := true, recurses := true, named := ["internal/strconv.uint64pow10", "math/bits.deBruijn32tab", "math/bits.deBruijn64tab"], plainKeys := false, apart := false, laid := [("math/bits.deBruijn32tab", laid_math_bits_deBruijn32tab), ("math/bits.deBruijn64tab", laid_math_bits_deBruijn64tab), ("internal/strconv.uint64pow10", laid_internal_strconv_uint64pow10)], narrowed := true }
def CensusTextsUptoSaid : Prop := censusTextsUptoRow.holds Tryz.pinned (OpenSpec.upto censusTextsSpec)

end Rows
end Go.Proofs.YtdafiipedlglpaaGreatDoor
