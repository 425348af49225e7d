/-
  NARROWER THAN 'FOR EVERY INPUT', by the rows' own cells (each row's printed sentence says how): ChartHeads: laid · ScriptRobins: laid · EventPrints: laid · AsmParses: laid · EventPicks: laid · DumpPrints: laid · SpanHolds: laid · ChartOnce: laid · SpanCalls: laid.
  DERIVED. THE GIVEN ROWS OF THIS SEAT. 9 by the template 'for every input the law returns true; each argument reads behind the call as it read before'; 0 by the template 'total and deterministic' (their statements: YtfcoigcenheefaaDoorTotals.lean).
  GIVEN WITH THE SEED: the statements are not yours to turn. If you find one false, say at which input.
  Laid BY PROGRAM, IN A SANDBOX (cutbox-rows.mjs): the forced cells as the released guide's own fill.sh prints them over the translation ab63221f1da08925… (all of the seat's roots in one cut). By AI agents, Wed Nov 11 2026. No macro, syntax, notation, axiom, sorry.
-/
import Derived.Test.YtfcoigcenheefaaDoorChecked
import GoSem.PinnedTables
import GoSem.Claim
import GoSem.ClaimJoined
import GoSem.ClaimMapViews
import Derived.JoinedTies
import Derived.KernelRfl
namespace Go.Proofs.YtfcoigcenheefaaDoor
/- THE CELL 'sum', in the pinned program and in every row, IS THE sha256 OF THE DUMP (.gsa) THAT YtfcoigcenheefaaDoorProg.lean LOADS. Nothing in Lean hashes anything: it is a label: what it is worth is what the hold of that sum in a sandbox is worth. -/
noncomputable def Tryd.pinned : Pinned := { name := "ytfcoigcenheefaadoor", sum := "ab63221f1da08925eb323f648e0bc1e204c83dd4d884fad667e29e53475d48fa", checked := Tryd.checked }
namespace Rows
def none {H : Type} : Left H := { results := [], args := [] }

/- WHAT THE LISTED PACKAGE-LEVEL VARIABLES READ AS WHEN THE CALL BEGINS. Each datum BY PROGRAM (the guide's laid-datum.mjs) off the statement by which the dump's own 'gosem.cut.vars' lays the variable. In a bare row this is a premise. The card (YtfcoigcenheefaaDoorCards.lean) ties it to the program's text. -/
def laid_escapement_isa_rows {H : Type} : DataW H := .agg [.agg [.lit (.string [110, 111, 112]), .lit (.int .i64 0), .lit (.int .i64 0), .lit (.bool false), .lit (.bool false), .lit (.bool false), .lit (.bool false)], .agg [.lit (.string [99, 111, 110, 115, 116]), .lit (.int .i64 1), .lit (.int .i64 0), .lit (.bool true), .lit (.bool false), .lit (.bool false), .lit (.bool false)], .agg [.lit (.string [97, 100, 100]), .lit (.int .i64 3), .lit (.int .i64 0), .lit (.bool false), .lit (.bool false), .lit (.bool false), .lit (.bool false)], .agg [.lit (.string [115, 117, 98]), .lit (.int .i64 3), .lit (.int .i64 0), .lit (.bool false), .lit (.bool false), .lit (.bool false), .lit (.bool false)], .agg [.lit (.string [109, 117, 108]), .lit (.int .i64 3), .lit (.int .i64 0), .lit (.bool false), .lit (.bool false), .lit (.bool false), .lit (.bool false)], .agg [.lit (.string [108, 101, 115, 115]), .lit (.int .i64 3), .lit (.int .i64 0), .lit (.bool false), .lit (.bool false), .lit (.bool false), .lit (.bool false)], .agg [.lit (.string [106, 117, 109, 112]), .lit (.int .i64 0), .lit (.int .i64 1), .lit (.bool false), .lit (.bool false), .lit (.bool true), .lit (.bool false)], .agg [.lit (.string [105, 102]), .lit (.int .i64 1), .lit (.int .i64 1), .lit (.bool false), .lit (.bool false), .lit (.bool false), .lit (.bool false)], .agg [.lit (.string [99, 97, 108, 108]), .lit (.int .i64 0), .lit (.int .i64 2), .lit (.bool false), .lit (.bool false), .lit (.bool false), .lit (.bool false)], .agg [.lit (.string [114, 101, 116]), .lit (.int .i64 0), .lit (.int .i64 0), .lit (.bool false), .lit (.bool false), .lit (.bool true), .lit (.bool false)], .agg [.lit (.string [115, 112, 97, 119, 110]), .lit (.int .i64 1), .lit (.int .i64 2), .lit (.bool false), .lit (.bool false), .lit (.bool false), .lit (.bool true)], .agg [.lit (.string [121, 105, 101, 108, 100]), .lit (.int .i64 0), .lit (.int .i64 0), .lit (.bool false), .lit (.bool true), .lit (.bool false), .lit (.bool false)], .agg [.lit (.string [98, 108, 111, 99, 107]), .lit (.int .i64 0), .lit (.int .i64 0), .lit (.bool false), .lit (.bool true), .lit (.bool false), .lit (.bool false)], .agg [.lit (.string [114, 101, 97, 100, 121]), .lit (.int .i64 1), .lit (.int .i64 0), .lit (.bool false), .lit (.bool false), .lit (.bool false), .lit (.bool true)], .agg [.lit (.string [101, 120, 105, 116]), .lit (.int .i64 0), .lit (.int .i64 0), .lit (.bool false), .lit (.bool false), .lit (.bool true), .lit (.bool false)], .agg [.lit (.string [101, 109, 105, 116]), .lit (.int .i64 1), .lit (.int .i64 0), .lit (.bool false), .lit (.bool false), .lit (.bool false), .lit (.bool false)], .agg [.lit (.string [115, 121, 115]), .lit (.int .i64 1), .lit (.int .i64 0), .lit (.bool false), .lit (.bool true), .lit (.bool false), .lit (.bool false)], .agg [.lit (.string [115, 116, 111, 112]), .lit (.int .i64 0), .lit (.int .i64 0), .lit (.bool false), .lit (.bool true), .lit (.bool false), .lit (.bool false)], .agg [.lit (.string [115, 116, 97, 114, 116]), .lit (.int .i64 0), .lit (.int .i64 0), .lit (.bool false), .lit (.bool false), .lit (.bool false), .lit (.bool false)], .agg [.lit (.string [98, 97, 114, 114, 105, 101, 114]), .lit (.int .i64 0), .lit (.int .i64 0), .lit (.bool false), .lit (.bool true), .lit (.bool false), .lit (.bool false)], .agg [.lit (.string [115, 117, 115, 112, 101, 110, 100]), .lit (.int .i64 1), .lit (.int .i64 0), .lit (.bool false), .lit (.bool true), .lit (.bool false), .lit (.bool true)], .agg [.lit (.string [114, 101, 115, 117, 109, 101]), .lit (.int .i64 1), .lit (.int .i64 0), .lit (.bool false), .lit (.bool false), .lit (.bool false), .lit (.bool true)], .agg [.lit (.string [114, 101, 115, 105, 122, 101]), .lit (.int .i64 1), .lit (.int .i64 0), .lit (.bool false), .lit (.bool false), .lit (.bool false), .lit (.bool true)], .agg [.lit (.string [115, 101, 108, 102]), .lit (.int .i64 1), .lit (.int .i64 0), .lit (.bool false), .lit (.bool false), .lit (.bool false), .lit (.bool true)]]
def laid_math_bits_deBruijn32tab {H : Type} : DataW H := .agg [.lit (.int .u8 0), .lit (.int .u8 1), .lit (.int .u8 28), .lit (.int .u8 2), .lit (.int .u8 29), .lit (.int .u8 14), .lit (.int .u8 24), .lit (.int .u8 3), .lit (.int .u8 30), .lit (.int .u8 22), .lit (.int .u8 20), .lit (.int .u8 15), .lit (.int .u8 25), .lit (.int .u8 17), .lit (.int .u8 4), .lit (.int .u8 8), .lit (.int .u8 31), .lit (.int .u8 27), .lit (.int .u8 13), .lit (.int .u8 23), .lit (.int .u8 21), .lit (.int .u8 19), .lit (.int .u8 16), .lit (.int .u8 7), .lit (.int .u8 26), .lit (.int .u8 12), .lit (.int .u8 18), .lit (.int .u8 6), .lit (.int .u8 11), .lit (.int .u8 5), .lit (.int .u8 10), .lit (.int .u8 9)]
def laid_math_bits_deBruijn64tab {H : Type} : DataW H := .agg [.lit (.int .u8 0), .lit (.int .u8 1), .lit (.int .u8 56), .lit (.int .u8 2), .lit (.int .u8 57), .lit (.int .u8 49), .lit (.int .u8 28), .lit (.int .u8 3), .lit (.int .u8 61), .lit (.int .u8 58), .lit (.int .u8 42), .lit (.int .u8 50), .lit (.int .u8 38), .lit (.int .u8 29), .lit (.int .u8 17), .lit (.int .u8 4), .lit (.int .u8 62), .lit (.int .u8 47), .lit (.int .u8 59), .lit (.int .u8 36), .lit (.int .u8 45), .lit (.int .u8 43), .lit (.int .u8 51), .lit (.int .u8 22), .lit (.int .u8 53), .lit (.int .u8 39), .lit (.int .u8 33), .lit (.int .u8 30), .lit (.int .u8 24), .lit (.int .u8 18), .lit (.int .u8 12), .lit (.int .u8 5), .lit (.int .u8 63), .lit (.int .u8 55), .lit (.int .u8 48), .lit (.int .u8 27), .lit (.int .u8 60), .lit (.int .u8 41), .lit (.int .u8 37), .lit (.int .u8 16), .lit (.int .u8 46), .lit (.int .u8 35), .lit (.int .u8 44), .lit (.int .u8 21), .lit (.int .u8 52), .lit (.int .u8 32), .lit (.int .u8 23), .lit (.int .u8 11), .lit (.int .u8 54), .lit (.int .u8 26), .lit (.int .u8 40), .lit (.int .u8 15), .lit (.int .u8 34), .lit (.int .u8 20), .lit (.int .u8 31), .lit (.int .u8 10), .lit (.int .u8 25), .lit (.int .u8 14), .lit (.int .u8 19), .lit (.int .u8 9), .lit (.int .u8 13), .lit (.int .u8 8), .lit (.int .u8 7), .lit (.int .u8 6)]
def laid_internal_strconv_uint64pow10 {H : Type} : DataW H := .agg [.lit (.int .u64 1), .lit (.int .u64 10), .lit (.int .u64 100), .lit (.int .u64 1000), .lit (.int .u64 10000), .lit (.int .u64 100000), .lit (.int .u64 1000000), .lit (.int .u64 10000000), .lit (.int .u64 100000000), .lit (.int .u64 1000000000), .lit (.int .u64 10000000000), .lit (.int .u64 100000000000), .lit (.int .u64 1000000000000), .lit (.int .u64 10000000000000), .lit (.int .u64 100000000000000), .lit (.int .u64 1000000000000000), .lit (.int .u64 10000000000000000), .lit (.int .u64 100000000000000000), .lit (.int .u64 1000000000000000000), .lit (.int .u64 10000000000000000000)]
def laid_unicode_utf8_acceptRanges {H : Type} : DataW H := .agg [.agg [.lit (.int .u8 128), .lit (.int .u8 191)], .agg [.lit (.int .u8 160), .lit (.int .u8 191)], .agg [.lit (.int .u8 128), .lit (.int .u8 159)], .agg [.lit (.int .u8 144), .lit (.int .u8 191)], .agg [.lit (.int .u8 128), .lit (.int .u8 143)], .agg [.lit (.int .u8 0), .lit (.int .u8 0)], .agg [.lit (.int .u8 0), .lit (.int .u8 0)], .agg [.lit (.int .u8 0), .lit (.int .u8 0)], .agg [.lit (.int .u8 0), .lit (.int .u8 0)], .agg [.lit (.int .u8 0), .lit (.int .u8 0)], .agg [.lit (.int .u8 0), .lit (.int .u8 0)], .agg [.lit (.int .u8 0), .lit (.int .u8 0)], .agg [.lit (.int .u8 0), .lit (.int .u8 0)], .agg [.lit (.int .u8 0), .lit (.int .u8 0)], .agg [.lit (.int .u8 0), .lit (.int .u8 0)], .agg [.lit (.int .u8 0), .lit (.int .u8 0)]]
/-- One of Go's own tables, pinned by name: the form's constant. -/
def laid_unicode_utf8_first : DataW Unit := Go.Pinned.utf8First

/-- 'escapementlaw43.ChartHeads': WHATEVER THE INPUT: true; the input reads as it did. -/
def chartHeadsSpec : ChangeSpec := { name := "chartHeads", fn := fun _ => fun
  | [d1, d2, d3, d4] => { results := [.lit (.bool true)], args := [d1, d2, d3, d4] }
  | _ => none }
def chartHeadsRow : OpenClaim := { program := "ytfcoigcenheefaadoor", sum := "ab63221f1da08925eb323f648e0bc1e204c83dd4d884fad667e29e53475d48fa", func := "escapement/escapementlaw43.ChartHeads", spec := "chartHeads", inPlace := ["internal/abi.NoEscape", "internal/bytealg.MakeNoZero"], named := ["escapement/isa.rows"], apart := false, laid := [("escapement/isa.rows", laid_escapement_isa_rows)] }
def ChartHeadsSaid : Prop := chartHeadsRow.holds Tryd.pinned (OpenSpec.ofChange chartHeadsSpec)

/-- ITS FALSE NEIGHBOUR: 'it returns false'. Refute it at one input. -/
def chartHeadsWrong : ChangeSpec := { name := "chartHeads", fn := fun _ => fun
  | [d1, d2, d3, d4] => { results := [.lit (.bool false)], args := [d1, d2, d3, d4] }
  | _ => none }
def ChartHeadsWrongFalsely : Prop := chartHeadsRow.holds Tryd.pinned (OpenSpec.ofChange chartHeadsWrong)

/-- 'escapementlaw30.ScriptRobins': WHATEVER THE INPUT: true; the input reads as it did. -/
def scriptRobinsSpec : ChangeSpec := { name := "scriptRobins", fn := fun _ => fun
  | [d1, d2] => { results := [.lit (.bool true)], args := [d1, d2] }
  | _ => none }
def scriptRobinsRow : OpenClaim := { program := "ytfcoigcenheefaadoor", sum := "ab63221f1da08925eb323f648e0bc1e204c83dd4d884fad667e29e53475d48fa", func := "escapement/escapementlaw30.ScriptRobins", spec := "scriptRobins", inPlace := ["internal/abi.NoEscape"], unfollowed := true, recurses := true, named := ["internal/strconv.uint64pow10", "math/bits.deBruijn32tab", "math/bits.deBruijn64tab"], apart := false, laid := [("math/bits.deBruijn32tab", laid_math_bits_deBruijn32tab), ("math/bits.deBruijn64tab", laid_math_bits_deBruijn64tab), ("internal/strconv.uint64pow10", laid_internal_strconv_uint64pow10)] }
def ScriptRobinsSaid : Prop := scriptRobinsRow.holds Tryd.pinned (OpenSpec.ofChange scriptRobinsSpec)

/-- ITS FALSE NEIGHBOUR: 'it returns false'. Refute it at one input. -/
def scriptRobinsWrong : ChangeSpec := { name := "scriptRobins", fn := fun _ => fun
  | [d1, d2] => { results := [.lit (.bool false)], args := [d1, d2] }
  | _ => none }
def ScriptRobinsWrongFalsely : Prop := scriptRobinsRow.holds Tryd.pinned (OpenSpec.ofChange scriptRobinsWrong)

/-- 'escapementlaw29.EventPrints': WHATEVER THE INPUT: true; the input reads as it did. -/
def eventPrintsSpec : ChangeSpec := { name := "eventPrints", fn := fun _ => fun
  | [d1, d2] => { results := [.lit (.bool true)], args := [d1, d2] }
  | _ => none }
def eventPrintsRow : OpenClaim := { program := "ytfcoigcenheefaadoor", sum := "ab63221f1da08925eb323f648e0bc1e204c83dd4d884fad667e29e53475d48fa", func := "escapement/escapementlaw29.EventPrints", spec := "eventPrints", inPlace := ["internal/abi.NoEscape", "internal/bytealg.MakeNoZero"], unfollowed := true, recurses := true, named := ["internal/strconv.uint64pow10", "math/bits.deBruijn32tab", "math/bits.deBruijn64tab"], apart := false, laid := [("math/bits.deBruijn32tab", laid_math_bits_deBruijn32tab), ("math/bits.deBruijn64tab", laid_math_bits_deBruijn64tab), ("internal/strconv.uint64pow10", laid_internal_strconv_uint64pow10)] }
def EventPrintsSaid : Prop := eventPrintsRow.holds Tryd.pinned (OpenSpec.ofChange eventPrintsSpec)

/-- ITS FALSE NEIGHBOUR: 'it returns false'. Refute it at one input. -/
def eventPrintsWrong : ChangeSpec := { name := "eventPrints", fn := fun _ => fun
  | [d1, d2] => { results := [.lit (.bool false)], args := [d1, d2] }
  | _ => none }
def EventPrintsWrongFalsely : Prop := eventPrintsRow.holds Tryd.pinned (OpenSpec.ofChange eventPrintsWrong)

/-- 'escapementlaw10.AsmParses': WHATEVER THE INPUT: true; the input reads as it did. -/
def asmParsesSpec : ChangeSpec := { name := "asmParses", fn := fun _ => fun
  | [d] => { results := [.lit (.bool true)], args := [d] }
  | _ => none }
def asmParsesRow : OpenClaim := { program := "ytfcoigcenheefaadoor", sum := "ab63221f1da08925eb323f648e0bc1e204c83dd4d884fad667e29e53475d48fa", func := "escapement/escapementlaw10.AsmParses", spec := "asmParses", inPlace := ["internal/bytealg.IndexByteString", "internal/bytealg.IndexString", "internal/bytealg.CountString"], unfollowed := true, recurses := true, named := ["internal/bytealg.MaxLen", "unicode/utf8.first", "unicode/utf8.acceptRanges", "escapement/isa.rows"], apart := false, laid := [("escapement/isa.rows", laid_escapement_isa_rows), ("unicode/utf8.acceptRanges", laid_unicode_utf8_acceptRanges), ("unicode/utf8.first", laid_unicode_utf8_first)] }
def AsmParsesSaid : Prop := asmParsesRow.holds Tryd.pinned (OpenSpec.ofChange asmParsesSpec)

/-- ITS FALSE NEIGHBOUR: 'it returns false'. Refute it at one input. -/
def asmParsesWrong : ChangeSpec := { name := "asmParses", fn := fun _ => fun
  | [d] => { results := [.lit (.bool false)], args := [d] }
  | _ => none }
def AsmParsesWrongFalsely : Prop := asmParsesRow.holds Tryd.pinned (OpenSpec.ofChange asmParsesWrong)

/-- 'escapementlaw29.EventPicks': WHATEVER THE INPUT: true; the input reads as it did. -/
def eventPicksSpec : ChangeSpec := { name := "eventPicks", fn := fun _ => fun
  | [d1, d2, d3] => { results := [.lit (.bool true)], args := [d1, d2, d3] }
  | _ => none }
def eventPicksRow : OpenClaim := { program := "ytfcoigcenheefaadoor", sum := "ab63221f1da08925eb323f648e0bc1e204c83dd4d884fad667e29e53475d48fa", func := "escapement/escapementlaw29.EventPicks", spec := "eventPicks", inPlace := ["internal/abi.NoEscape", "internal/bytealg.MakeNoZero"], unfollowed := true, recurses := true, named := ["internal/strconv.uint64pow10", "math/bits.deBruijn32tab", "math/bits.deBruijn64tab"], apart := false, laid := [("math/bits.deBruijn32tab", laid_math_bits_deBruijn32tab), ("math/bits.deBruijn64tab", laid_math_bits_deBruijn64tab), ("internal/strconv.uint64pow10", laid_internal_strconv_uint64pow10)] }
def EventPicksSaid : Prop := eventPicksRow.holds Tryd.pinned (OpenSpec.ofChange eventPicksSpec)

/-- ITS FALSE NEIGHBOUR: 'it returns false'. Refute it at one input. -/
def eventPicksWrong : ChangeSpec := { name := "eventPicks", fn := fun _ => fun
  | [d1, d2, d3] => { results := [.lit (.bool false)], args := [d1, d2, d3] }
  | _ => none }
def EventPicksWrongFalsely : Prop := eventPicksRow.holds Tryd.pinned (OpenSpec.ofChange eventPicksWrong)

/-- 'escapementlaw42.DumpPrints': WHATEVER THE INPUT: true; the input reads as it did. -/
def dumpPrintsSpec : ChangeSpec := { name := "dumpPrints", fn := fun _ => fun
  | [d1, d2, d3] => { results := [.lit (.bool true)], args := [d1, d2, d3] }
  | _ => none }
def dumpPrintsRow : OpenClaim := { program := "ytfcoigcenheefaadoor", sum := "ab63221f1da08925eb323f648e0bc1e204c83dd4d884fad667e29e53475d48fa", func := "escapement/escapementlaw42.DumpPrints", spec := "dumpPrints", inPlace := ["internal/abi.NoEscape"], unfollowed := true, recurses := true, named := ["internal/strconv.uint64pow10", "math/bits.deBruijn32tab", "math/bits.deBruijn64tab"], apart := false, laid := [("math/bits.deBruijn32tab", laid_math_bits_deBruijn32tab), ("math/bits.deBruijn64tab", laid_math_bits_deBruijn64tab), ("internal/strconv.uint64pow10", laid_internal_strconv_uint64pow10)] }
def DumpPrintsSaid : Prop := dumpPrintsRow.holds Tryd.pinned (OpenSpec.ofChange dumpPrintsSpec)

/-- ITS FALSE NEIGHBOUR: 'it returns false'. Refute it at one input. -/
def dumpPrintsWrong : ChangeSpec := { name := "dumpPrints", fn := fun _ => fun
  | [d1, d2, d3] => { results := [.lit (.bool false)], args := [d1, d2, d3] }
  | _ => none }
def DumpPrintsWrongFalsely : Prop := dumpPrintsRow.holds Tryd.pinned (OpenSpec.ofChange dumpPrintsWrong)

/-- 'escapementlaw36.SpanHolds': WHATEVER THE INPUT: true; the input reads as it did. -/
def spanHoldsSpec : ChangeSpec := { name := "spanHolds", fn := fun _ => fun
  | [d1, d2, d3] => { results := [.lit (.bool true)], args := [d1, d2, d3] }
  | _ => none }
def spanHoldsRow : OpenClaim := { program := "ytfcoigcenheefaadoor", sum := "ab63221f1da08925eb323f648e0bc1e204c83dd4d884fad667e29e53475d48fa", func := "escapement/escapementlaw36.SpanHolds", spec := "spanHolds", unfollowed := true, recurses := true, named := ["escapement/isa.rows"], apart := false, laid := [("escapement/isa.rows", laid_escapement_isa_rows)] }
def SpanHoldsSaid : Prop := spanHoldsRow.holds Tryd.pinned (OpenSpec.ofChange spanHoldsSpec)

/-- ITS FALSE NEIGHBOUR: 'it returns false'. Refute it at one input. -/
def spanHoldsWrong : ChangeSpec := { name := "spanHolds", fn := fun _ => fun
  | [d1, d2, d3] => { results := [.lit (.bool false)], args := [d1, d2, d3] }
  | _ => none }
def SpanHoldsWrongFalsely : Prop := spanHoldsRow.holds Tryd.pinned (OpenSpec.ofChange spanHoldsWrong)

/-- 'escapementlaw43.ChartOnce': WHATEVER THE INPUT: true; the input reads as it did. -/
def chartOnceSpec : ChangeSpec := { name := "chartOnce", fn := fun _ => fun
  | [d1, d2] => { results := [.lit (.bool true)], args := [d1, d2] }
  | _ => none }
def chartOnceRow : OpenClaim := { program := "ytfcoigcenheefaadoor", sum := "ab63221f1da08925eb323f648e0bc1e204c83dd4d884fad667e29e53475d48fa", func := "escapement/escapementlaw43.ChartOnce", spec := "chartOnce", inPlace := ["internal/abi.NoEscape", "internal/bytealg.MakeNoZero"], unfollowed := true, recurses := true, named := ["escapement/isa.rows", "internal/strconv.uint64pow10", "math/bits.deBruijn32tab", "math/bits.deBruijn64tab"], apart := false, laid := [("escapement/isa.rows", laid_escapement_isa_rows), ("math/bits.deBruijn32tab", laid_math_bits_deBruijn32tab), ("math/bits.deBruijn64tab", laid_math_bits_deBruijn64tab), ("internal/strconv.uint64pow10", laid_internal_strconv_uint64pow10)] }
def ChartOnceSaid : Prop := chartOnceRow.holds Tryd.pinned (OpenSpec.ofChange chartOnceSpec)

/-- ITS FALSE NEIGHBOUR: 'it returns false'. Refute it at one input. -/
def chartOnceWrong : ChangeSpec := { name := "chartOnce", fn := fun _ => fun
  | [d1, d2] => { results := [.lit (.bool false)], args := [d1, d2] }
  | _ => none }
def ChartOnceWrongFalsely : Prop := chartOnceRow.holds Tryd.pinned (OpenSpec.ofChange chartOnceWrong)

/-- 'escapementlaw36.SpanCalls': WHATEVER THE INPUT: true; the input reads as it did. -/
def spanCallsSpec : ChangeSpec := { name := "spanCalls", fn := fun _ => fun
  | [d1, d2] => { results := [.lit (.bool true)], args := [d1, d2] }
  | _ => none }
def spanCallsRow : OpenClaim := { program := "ytfcoigcenheefaadoor", sum := "ab63221f1da08925eb323f648e0bc1e204c83dd4d884fad667e29e53475d48fa", func := "escapement/escapementlaw36.SpanCalls", spec := "spanCalls", unfollowed := true, recurses := true, named := ["escapement/isa.rows"], apart := false, laid := [("escapement/isa.rows", laid_escapement_isa_rows)] }
def SpanCallsSaid : Prop := spanCallsRow.holds Tryd.pinned (OpenSpec.ofChange spanCallsSpec)

/-- ITS FALSE NEIGHBOUR: 'it returns false'. Refute it at one input. -/
def spanCallsWrong : ChangeSpec := { name := "spanCalls", fn := fun _ => fun
  | [d1, d2] => { results := [.lit (.bool false)], args := [d1, d2] }
  | _ => none }
def SpanCallsWrongFalsely : Prop := spanCallsRow.holds Tryd.pinned (OpenSpec.ofChange spanCallsWrong)

/- THE SECOND FORM. 'bulk': how many values and letters a reading holds, each counted each time it is reached (what is shared counts as often as it is met; a slice's spare places count too). A statement '..UptoSaid' is the law's where the arguments, and the package variables that the reading takes, are together of bulk at most 1048576: NARROWER than '..Said'. Prove '..Said' where nothing that the law and all that it calls make is longer than what came in: it says more and counts as full. Else prove '..UptoSaid'. A law counts once. -/
mutual
def uptoBulk {H : Type} : DataW H → Nat
  | .lit (.string bytes) => bytes.length + 1
  | .lit _ => 1
  | .nil => 1
  | .ptr d => uptoBulk d + 1
  | .slice elems spare => uptoBulkAll elems + uptoBulkAll spare + 1
  | .agg parts => uptoBulkAll parts + 1
  | .iface _ d => uptoBulk d + 1
  | .map entries => uptoBulkEntries entries + 1
  | .held _ => 1
def uptoBulkAll {H : Type} : List (DataW H) → Nat
  | [] => 0
  | d :: r => uptoBulk d + uptoBulkAll r
def uptoBulkEntries {H : Type} : List (Lit × DataW H) → Nat
  | [] => 0
  | x :: r => uptoBulkEntry x + uptoBulkEntries r
def uptoBulkEntry {H : Type} : Lit × DataW H → Nat
  | (.string bytes, d) => bytes.length + uptoBulk d + 1
  | (_, d) => uptoBulk d + 1
 end
def uptoSmall : (H : Type) → List (DataW H) → Bool := fun _ ds => decide (uptoBulkAll ds ≤ 1048576)
def OpenSpec.upto (s : _root_.Go.ChangeSpec) : _root_.Go.OpenSpec := { _root_.Go.OpenSpec.ofChange s with cond := some uptoSmall }

/-- 'escapementlaw43.ChartHeads', WHERE WHAT IT READS IS OF BULK AT MOST 1048576: true; the input reads as it did. -/
def chartHeadsUptoRow : OpenClaim := { program := "ytfcoigcenheefaadoor", sum := "ab63221f1da08925eb323f648e0bc1e204c83dd4d884fad667e29e53475d48fa", func := "escapement/escapementlaw43.ChartHeads", spec := "chartHeads", inPlace := ["internal/abi.NoEscape", "internal/bytealg.MakeNoZero"], named := ["escapement/isa.rows"], apart := false, laid := [("escapement/isa.rows", laid_escapement_isa_rows)], narrowed := true }
def ChartHeadsUptoSaid : Prop := chartHeadsUptoRow.holds Tryd.pinned (OpenSpec.upto chartHeadsSpec)

/-- 'escapementlaw30.ScriptRobins', WHERE WHAT IT READS IS OF BULK AT MOST 1048576: true; the input reads as it did. -/
def scriptRobinsUptoRow : OpenClaim := { program := "ytfcoigcenheefaadoor", sum := "ab63221f1da08925eb323f648e0bc1e204c83dd4d884fad667e29e53475d48fa", func := "escapement/escapementlaw30.ScriptRobins", spec := "scriptRobins", inPlace := ["internal/abi.NoEscape"], unfollowed := true, recurses := true, named := ["internal/strconv.uint64pow10", "math/bits.deBruijn32tab", "math/bits.deBruijn64tab"], apart := false, laid := [("math/bits.deBruijn32tab", laid_math_bits_deBruijn32tab), ("math/bits.deBruijn64tab", laid_math_bits_deBruijn64tab), ("internal/strconv.uint64pow10", laid_internal_strconv_uint64pow10)], narrowed := true }
def ScriptRobinsUptoSaid : Prop := scriptRobinsUptoRow.holds Tryd.pinned (OpenSpec.upto scriptRobinsSpec)

/-- 'escapementlaw29.EventPrints', WHERE WHAT IT READS IS OF BULK AT MOST 1048576: true; the input reads as it did. -/
def eventPrintsUptoRow : OpenClaim := { program := "ytfcoigcenheefaadoor", sum := "ab63221f1da08925eb323f648e0bc1e204c83dd4d884fad667e29e53475d48fa", func := "escapement/escapementlaw29.EventPrints", spec := "eventPrints", inPlace := ["internal/abi.NoEscape", "internal/bytealg.MakeNoZero"], unfollowed := true, recurses := true, named := ["internal/strconv.uint64pow10", "math/bits.deBruijn32tab", "math/bits.deBruijn64tab"], apart := false, laid := [("math/bits.deBruijn32tab", laid_math_bits_deBruijn32tab), ("math/bits.deBruijn64tab", laid_math_bits_deBruijn64tab), ("internal/strconv.uint64pow10", laid_internal_strconv_uint64pow10)], narrowed := true }
def EventPrintsUptoSaid : Prop := eventPrintsUptoRow.holds Tryd.pinned (OpenSpec.upto eventPrintsSpec)

/-- 'escapementlaw10.AsmParses', WHERE WHAT IT READS IS OF BULK AT MOST 1048576: true; the input reads as it did. -/
def asmParsesUptoRow : OpenClaim := { program := "ytfcoigcenheefaadoor", sum := "ab63221f1da08925eb323f648e0bc1e204c83dd4d884fad667e29e53475d48fa", func := "escapement/escapementlaw10.AsmParses", spec := "asmParses", inPlace := ["internal/bytealg.IndexByteString", "internal/bytealg.IndexString", "internal/bytealg.CountString"], unfollowed := true, recurses := true, named := ["internal/bytealg.MaxLen", "unicode/utf8.first", "unicode/utf8.acceptRanges", "escapement/isa.rows"], apart := false, laid := [("escapement/isa.rows", laid_escapement_isa_rows), ("unicode/utf8.acceptRanges", laid_unicode_utf8_acceptRanges), ("unicode/utf8.first", laid_unicode_utf8_first)], narrowed := true }
def AsmParsesUptoSaid : Prop := asmParsesUptoRow.holds Tryd.pinned (OpenSpec.upto asmParsesSpec)

/-- 'escapementlaw29.EventPicks', WHERE WHAT IT READS IS OF BULK AT MOST 1048576: true; the input reads as it did. -/
def eventPicksUptoRow : OpenClaim := { program := "ytfcoigcenheefaadoor", sum := "ab63221f1da08925eb323f648e0bc1e204c83dd4d884fad667e29e53475d48fa", func := "escapement/escapementlaw29.EventPicks", spec := "eventPicks", inPlace := ["internal/abi.NoEscape", "internal/bytealg.MakeNoZero"], unfollowed := true, recurses := true, named := ["internal/strconv.uint64pow10", "math/bits.deBruijn32tab", "math/bits.deBruijn64tab"], apart := false, laid := [("math/bits.deBruijn32tab", laid_math_bits_deBruijn32tab), ("math/bits.deBruijn64tab", laid_math_bits_deBruijn64tab), ("internal/strconv.uint64pow10", laid_internal_strconv_uint64pow10)], narrowed := true }
def EventPicksUptoSaid : Prop := eventPicksUptoRow.holds Tryd.pinned (OpenSpec.upto eventPicksSpec)

/-- 'escapementlaw42.DumpPrints', WHERE WHAT IT READS IS OF BULK AT MOST 1048576: true; the input reads as it did. -/
def dumpPrintsUptoRow : OpenClaim := { program := "ytfcoigcenheefaadoor", sum := "ab63221f1da08925eb323f648e0bc1e204c83dd4d884fad667e29e53475d48fa", func := "escapement/escapementlaw42.DumpPrints", spec := "dumpPrints", inPlace := ["internal/abi.NoEscape"], unfollowed := true, recurses := true, named := ["internal/strconv.uint64pow10", "math/bits.deBruijn32tab", "math/bits.deBruijn64tab"], apart := false, laid := [("math/bits.deBruijn32tab", laid_math_bits_deBruijn32tab), ("math/bits.deBruijn64tab", laid_math_bits_deBruijn64tab), ("internal/strconv.uint64pow10", laid_internal_strconv_uint64pow10)], narrowed := true }
def DumpPrintsUptoSaid : Prop := dumpPrintsUptoRow.holds Tryd.pinned (OpenSpec.upto dumpPrintsSpec)

/-- 'escapementlaw36.SpanHolds', WHERE WHAT IT READS IS OF BULK AT MOST 1048576: true; the input reads as it did. -/
def spanHoldsUptoRow : OpenClaim := { program := "ytfcoigcenheefaadoor", sum := "ab63221f1da08925eb323f648e0bc1e204c83dd4d884fad667e29e53475d48fa", func := "escapement/escapementlaw36.SpanHolds", spec := "spanHolds", unfollowed := true, recurses := true, named := ["escapement/isa.rows"], apart := false, laid := [("escapement/isa.rows", laid_escapement_isa_rows)], narrowed := true }
def SpanHoldsUptoSaid : Prop := spanHoldsUptoRow.holds Tryd.pinned (OpenSpec.upto spanHoldsSpec)

/-- 'escapementlaw43.ChartOnce', WHERE WHAT IT READS IS OF BULK AT MOST 1048576: true; the input reads as it did. -/
def chartOnceUptoRow : OpenClaim := { program := "ytfcoigcenheefaadoor", sum := "ab63221f1da08925eb323f648e0bc1e204c83dd4d884fad667e29e53475d48fa", func := "escapement/escapementlaw43.ChartOnce", spec := "chartOnce", inPlace := ["internal/abi.NoEscape", "internal/bytealg.MakeNoZero"], unfollowed := true, recurses := true, named := ["escapement/isa.rows", "internal/strconv.uint64pow10", "math/bits.deBruijn32tab", "math/bits.deBruijn64tab"], apart := false, laid := [("escapement/isa.rows", laid_escapement_isa_rows), ("math/bits.deBruijn32tab", laid_math_bits_deBruijn32tab), ("math/bits.deBruijn64tab", laid_math_bits_deBruijn64tab), ("internal/strconv.uint64pow10", laid_internal_strconv_uint64pow10)], narrowed := true }
def ChartOnceUptoSaid : Prop := chartOnceUptoRow.holds Tryd.pinned (OpenSpec.upto chartOnceSpec)

/-- 'escapementlaw36.SpanCalls', WHERE WHAT IT READS IS OF BULK AT MOST 1048576: true; the input reads as it did. -/
def spanCallsUptoRow : OpenClaim := { program := "ytfcoigcenheefaadoor", sum := "ab63221f1da08925eb323f648e0bc1e204c83dd4d884fad667e29e53475d48fa", func := "escapement/escapementlaw36.SpanCalls", spec := "spanCalls", unfollowed := true, recurses := true, named := ["escapement/isa.rows"], apart := false, laid := [("escapement/isa.rows", laid_escapement_isa_rows)], narrowed := true }
def SpanCallsUptoSaid : Prop := spanCallsUptoRow.holds Tryd.pinned (OpenSpec.upto spanCallsSpec)

end Rows
end Go.Proofs.YtfcoigcenheefaaDoor
