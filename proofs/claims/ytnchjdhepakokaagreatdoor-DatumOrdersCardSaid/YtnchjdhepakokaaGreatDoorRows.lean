/-
  NARROWER THAN 'FOR EVERY INPUT', by the rows' own cells (each row's printed sentence says how): EvalFunctions: laid · EvalSteps: laid · EvalRight: laid · EvalNulls: laid · EvalAll: laid · EvalNamed: laid · DatumTexts: laid · DatumLogic: laid · DatumOrder: laid · DatumOrders: laid · DatumBack: laid · DatumKeys: laid · DatumBytes: laid.
  DERIVED. THE GIVEN ROWS OF THIS SEAT. 13 by the template 'for every input the law returns true; each argument reads behind the call as it read before'; 0 by the template 'total and deterministic' (their statements: YtnchjdhepakokaaGreatDoorTotals.lean).
  GIVEN WITH THE SEED: the statements are not yours to turn. If you find one false, say at which input.
  Laid BY PROGRAM, IN A SANDBOX (cutbox-rows.mjs): the forced cells as the released guide's own fill.sh prints them over the translation 5f4f5c44dcf47f5b… (all of the seat's roots in one cut). By AI agents, Wed Nov 11 2026. No macro, syntax, notation, axiom, sorry.
-/
import Derived.Test.YtnchjdhepakokaaGreatDoorChecked
import GoSem.PinnedTables
import GoSem.Claim
import GoSem.ClaimJoined
import GoSem.ClaimMapViews
import Derived.JoinedTies
import Derived.KernelRfl
namespace Go.Proofs.YtnchjdhepakokaaGreatDoor
/- THE CELL 'sum', in the pinned program and in every row, IS THE sha256 OF THE DUMP (.gsa) THAT YtnchjdhepakokaaGreatDoorProg.lean LOADS. Nothing in Lean hashes anything: it is a label: what it is worth is what the hold of that sum in a sandbox is worth. -/
noncomputable def Tryz.pinned : Pinned := { name := "ytnchjdhepakokaagreatdoor", sum := "5f4f5c44dcf47f5bf8b15520de837fbea6d1cf51ace28c98cab05548a3299ba0", checked := Tryz.checked }
namespace Rows
def none {H : Type} : Left H := { results := [], args := [] }

/- WHAT THE LISTED PACKAGE-LEVEL VARIABLES READ AS WHEN THE CALL BEGINS. Each datum BY PROGRAM (the guide's laid-datum.mjs) off the statement by which the dump's own 'gosem.cut.vars' lays the variable. In a bare row this is a premise. The card (YtnchjdhepakokaaGreatDoorCards.lean) ties it to the program's text. -/
def laid_unicode_utf8_acceptRanges {H : Type} : DataW H := .agg [.agg [.lit (.int .u8 128), .lit (.int .u8 191)], .agg [.lit (.int .u8 160), .lit (.int .u8 191)], .agg [.lit (.int .u8 128), .lit (.int .u8 159)], .agg [.lit (.int .u8 144), .lit (.int .u8 191)], .agg [.lit (.int .u8 128), .lit (.int .u8 143)], .agg [.lit (.int .u8 0), .lit (.int .u8 0)], .agg [.lit (.int .u8 0), .lit (.int .u8 0)], .agg [.lit (.int .u8 0), .lit (.int .u8 0)], .agg [.lit (.int .u8 0), .lit (.int .u8 0)], .agg [.lit (.int .u8 0), .lit (.int .u8 0)], .agg [.lit (.int .u8 0), .lit (.int .u8 0)], .agg [.lit (.int .u8 0), .lit (.int .u8 0)], .agg [.lit (.int .u8 0), .lit (.int .u8 0)], .agg [.lit (.int .u8 0), .lit (.int .u8 0)], .agg [.lit (.int .u8 0), .lit (.int .u8 0)], .agg [.lit (.int .u8 0), .lit (.int .u8 0)]]
def laid_longstop_decimal_powers {H : Type} : DataW H := .agg [.lit (.int .u64 1), .lit (.int .u64 10), .lit (.int .u64 100), .lit (.int .u64 1000), .lit (.int .u64 10000), .lit (.int .u64 100000), .lit (.int .u64 1000000), .lit (.int .u64 10000000), .lit (.int .u64 100000000), .lit (.int .u64 1000000000), .lit (.int .u64 10000000000), .lit (.int .u64 100000000000), .lit (.int .u64 1000000000000)]
/-- One of Go's own tables, pinned by name: the form's constant. -/
def laid_unicode_utf8_first : DataW Unit := Go.Pinned.utf8First
def laid_math_bits_deBruijn32tab {H : Type} : DataW H := .agg [.lit (.int .u8 0), .lit (.int .u8 1), .lit (.int .u8 28), .lit (.int .u8 2), .lit (.int .u8 29), .lit (.int .u8 14), .lit (.int .u8 24), .lit (.int .u8 3), .lit (.int .u8 30), .lit (.int .u8 22), .lit (.int .u8 20), .lit (.int .u8 15), .lit (.int .u8 25), .lit (.int .u8 17), .lit (.int .u8 4), .lit (.int .u8 8), .lit (.int .u8 31), .lit (.int .u8 27), .lit (.int .u8 13), .lit (.int .u8 23), .lit (.int .u8 21), .lit (.int .u8 19), .lit (.int .u8 16), .lit (.int .u8 7), .lit (.int .u8 26), .lit (.int .u8 12), .lit (.int .u8 18), .lit (.int .u8 6), .lit (.int .u8 11), .lit (.int .u8 5), .lit (.int .u8 10), .lit (.int .u8 9)]
def laid_math_bits_deBruijn64tab {H : Type} : DataW H := .agg [.lit (.int .u8 0), .lit (.int .u8 1), .lit (.int .u8 56), .lit (.int .u8 2), .lit (.int .u8 57), .lit (.int .u8 49), .lit (.int .u8 28), .lit (.int .u8 3), .lit (.int .u8 61), .lit (.int .u8 58), .lit (.int .u8 42), .lit (.int .u8 50), .lit (.int .u8 38), .lit (.int .u8 29), .lit (.int .u8 17), .lit (.int .u8 4), .lit (.int .u8 62), .lit (.int .u8 47), .lit (.int .u8 59), .lit (.int .u8 36), .lit (.int .u8 45), .lit (.int .u8 43), .lit (.int .u8 51), .lit (.int .u8 22), .lit (.int .u8 53), .lit (.int .u8 39), .lit (.int .u8 33), .lit (.int .u8 30), .lit (.int .u8 24), .lit (.int .u8 18), .lit (.int .u8 12), .lit (.int .u8 5), .lit (.int .u8 63), .lit (.int .u8 55), .lit (.int .u8 48), .lit (.int .u8 27), .lit (.int .u8 60), .lit (.int .u8 41), .lit (.int .u8 37), .lit (.int .u8 16), .lit (.int .u8 46), .lit (.int .u8 35), .lit (.int .u8 44), .lit (.int .u8 21), .lit (.int .u8 52), .lit (.int .u8 32), .lit (.int .u8 23), .lit (.int .u8 11), .lit (.int .u8 54), .lit (.int .u8 26), .lit (.int .u8 40), .lit (.int .u8 15), .lit (.int .u8 34), .lit (.int .u8 20), .lit (.int .u8 31), .lit (.int .u8 10), .lit (.int .u8 25), .lit (.int .u8 14), .lit (.int .u8 19), .lit (.int .u8 9), .lit (.int .u8 13), .lit (.int .u8 8), .lit (.int .u8 7), .lit (.int .u8 6)]
def laid_internal_strconv_uint64pow10 {H : Type} : DataW H := .agg [.lit (.int .u64 1), .lit (.int .u64 10), .lit (.int .u64 100), .lit (.int .u64 1000), .lit (.int .u64 10000), .lit (.int .u64 100000), .lit (.int .u64 1000000), .lit (.int .u64 10000000), .lit (.int .u64 100000000), .lit (.int .u64 1000000000), .lit (.int .u64 10000000000), .lit (.int .u64 100000000000), .lit (.int .u64 1000000000000), .lit (.int .u64 10000000000000), .lit (.int .u64 100000000000000), .lit (.int .u64 1000000000000000), .lit (.int .u64 10000000000000000), .lit (.int .u64 100000000000000000), .lit (.int .u64 1000000000000000000), .lit (.int .u64 10000000000000000000)]
def laid_strconv_ErrRange {H : Type} : DataW H := .iface "*errors.errorString" (.ptr (.agg [.lit (.string [118, 97, 108, 117, 101, 32, 111, 117, 116, 32, 111, 102, 32, 114, 97, 110, 103, 101])]))
def laid_strconv_ErrSyntax {H : Type} : DataW H := .iface "*errors.errorString" (.ptr (.agg [.lit (.string [105, 110, 118, 97, 108, 105, 100, 32, 115, 121, 110, 116, 97, 120])]))

/-- 'longstoplaw07.EvalFunctions': WHATEVER THE INPUT: true; the input reads as it did. -/
def evalFunctionsSpec : ChangeSpec := { name := "evalFunctions", fn := fun _ => fun
  | [d1, d2] => { results := [.lit (.bool true)], args := [d1, d2] }
  | _ => none }
def evalFunctionsRow : OpenClaim := { program := "ytnchjdhepakokaagreatdoor", sum := "5f4f5c44dcf47f5bf8b15520de837fbea6d1cf51ace28c98cab05548a3299ba0", func := "longstop/longstoplaw07.EvalFunctions", spec := "evalFunctions", inPlace := ["math/bits.Add64", "math/bits.Sub64", "math.archFloor", "math.Float64bits", "math.Float64frombits", "math.archTrunc", "internal/bytealg.abigen_runtime_cmpstring"], unfollowed := true, recurses := true, named := ["unicode/utf8.first", "unicode/utf8.acceptRanges", "longstop/decimal.powers"], apart := false, laid := [("unicode/utf8.acceptRanges", laid_unicode_utf8_acceptRanges), ("longstop/decimal.powers", laid_longstop_decimal_powers), ("unicode/utf8.first", laid_unicode_utf8_first)] }
def EvalFunctionsSaid : Prop := evalFunctionsRow.holds Tryz.pinned (OpenSpec.ofChange evalFunctionsSpec)

/-- ITS FALSE NEIGHBOUR: 'it returns false'. Refute it at one input. -/
def evalFunctionsWrong : ChangeSpec := { name := "evalFunctions", fn := fun _ => fun
  | [d1, d2] => { results := [.lit (.bool false)], args := [d1, d2] }
  | _ => none }
def EvalFunctionsWrongFalsely : Prop := evalFunctionsRow.holds Tryz.pinned (OpenSpec.ofChange evalFunctionsWrong)

/-- 'longstoplaw07.EvalSteps': WHATEVER THE INPUT: true; the input reads as it did. -/
def evalStepsSpec : ChangeSpec := { name := "evalSteps", fn := fun _ => fun
  | [d1, d2, d3] => { results := [.lit (.bool true)], args := [d1, d2, d3] }
  | _ => none }
def evalStepsRow : OpenClaim := { program := "ytnchjdhepakokaagreatdoor", sum := "5f4f5c44dcf47f5bf8b15520de837fbea6d1cf51ace28c98cab05548a3299ba0", func := "longstop/longstoplaw07.EvalSteps", spec := "evalSteps", inPlace := ["math/bits.Add64", "math/bits.Sub64", "math.archFloor", "math.Float64bits", "math.Float64frombits", "math.archTrunc", "internal/bytealg.abigen_runtime_cmpstring"], unfollowed := true, recurses := true, named := ["unicode/utf8.first", "unicode/utf8.acceptRanges", "longstop/decimal.powers"], apart := false, laid := [("unicode/utf8.acceptRanges", laid_unicode_utf8_acceptRanges), ("longstop/decimal.powers", laid_longstop_decimal_powers), ("unicode/utf8.first", laid_unicode_utf8_first)] }
def EvalStepsSaid : Prop := evalStepsRow.holds Tryz.pinned (OpenSpec.ofChange evalStepsSpec)

/-- ITS FALSE NEIGHBOUR: 'it returns false'. Refute it at one input. -/
def evalStepsWrong : ChangeSpec := { name := "evalSteps", fn := fun _ => fun
  | [d1, d2, d3] => { results := [.lit (.bool false)], args := [d1, d2, d3] }
  | _ => none }
def EvalStepsWrongFalsely : Prop := evalStepsRow.holds Tryz.pinned (OpenSpec.ofChange evalStepsWrong)

/-- 'longstoplaw07.EvalRight': WHATEVER THE INPUT: true; the input reads as it did. -/
def evalRightSpec : ChangeSpec := { name := "evalRight", fn := fun _ => fun
  | [d1, d2, d3] => { results := [.lit (.bool true)], args := [d1, d2, d3] }
  | _ => none }
def evalRightRow : OpenClaim := { program := "ytnchjdhepakokaagreatdoor", sum := "5f4f5c44dcf47f5bf8b15520de837fbea6d1cf51ace28c98cab05548a3299ba0", func := "longstop/longstoplaw07.EvalRight", spec := "evalRight", inPlace := ["math/bits.Sub64", "math/bits.Add64", "math.archFloor", "math.Float64bits", "math.Float64frombits", "math.archTrunc", "internal/bytealg.abigen_runtime_cmpstring"], unfollowed := true, recurses := true, named := ["unicode/utf8.first", "unicode/utf8.acceptRanges", "longstop/decimal.powers"], apart := false, laid := [("unicode/utf8.acceptRanges", laid_unicode_utf8_acceptRanges), ("longstop/decimal.powers", laid_longstop_decimal_powers), ("unicode/utf8.first", laid_unicode_utf8_first)] }
def EvalRightSaid : Prop := evalRightRow.holds Tryz.pinned (OpenSpec.ofChange evalRightSpec)

/-- ITS FALSE NEIGHBOUR: 'it returns false'. Refute it at one input. -/
def evalRightWrong : ChangeSpec := { name := "evalRight", fn := fun _ => fun
  | [d1, d2, d3] => { results := [.lit (.bool false)], args := [d1, d2, d3] }
  | _ => none }
def EvalRightWrongFalsely : Prop := evalRightRow.holds Tryz.pinned (OpenSpec.ofChange evalRightWrong)

/-- 'longstoplaw07.EvalNulls': WHATEVER THE INPUT: true; the input reads as it did. -/
def evalNullsSpec : ChangeSpec := { name := "evalNulls", fn := fun _ => fun
  | [d1, d2] => { results := [.lit (.bool true)], args := [d1, d2] }
  | _ => none }
def evalNullsRow : OpenClaim := { program := "ytnchjdhepakokaagreatdoor", sum := "5f4f5c44dcf47f5bf8b15520de837fbea6d1cf51ace28c98cab05548a3299ba0", func := "longstop/longstoplaw07.EvalNulls", spec := "evalNulls", inPlace := ["math/bits.Sub64", "math/bits.Add64", "math.archFloor", "math.Float64bits", "math.Float64frombits", "math.archTrunc", "internal/bytealg.abigen_runtime_cmpstring"], unfollowed := true, recurses := true, named := ["unicode/utf8.first", "unicode/utf8.acceptRanges", "longstop/decimal.powers"], apart := false, laid := [("unicode/utf8.acceptRanges", laid_unicode_utf8_acceptRanges), ("longstop/decimal.powers", laid_longstop_decimal_powers), ("unicode/utf8.first", laid_unicode_utf8_first)] }
def EvalNullsSaid : Prop := evalNullsRow.holds Tryz.pinned (OpenSpec.ofChange evalNullsSpec)

/-- ITS FALSE NEIGHBOUR: 'it returns false'. Refute it at one input. -/
def evalNullsWrong : ChangeSpec := { name := "evalNulls", fn := fun _ => fun
  | [d1, d2] => { results := [.lit (.bool false)], args := [d1, d2] }
  | _ => none }
def EvalNullsWrongFalsely : Prop := evalNullsRow.holds Tryz.pinned (OpenSpec.ofChange evalNullsWrong)

/-- 'longstoplaw07.EvalAll': WHATEVER THE INPUT: true; the input reads as it did. -/
def evalAllSpec : ChangeSpec := { name := "evalAll", fn := fun _ => fun
  | [d1, d2, d3, d4, d5] => { results := [.lit (.bool true)], args := [d1, d2, d3, d4, d5] }
  | _ => none }
def evalAllRow : OpenClaim := { program := "ytnchjdhepakokaagreatdoor", sum := "5f4f5c44dcf47f5bf8b15520de837fbea6d1cf51ace28c98cab05548a3299ba0", func := "longstop/longstoplaw07.EvalAll", spec := "evalAll", inPlace := ["math/bits.Sub64", "math/bits.Add64", "math.archFloor", "math.Float64bits", "math.Float64frombits", "math.archTrunc", "internal/bytealg.abigen_runtime_cmpstring", "internal/bytealg.IndexByteString", "internal/bytealg.IndexString"], unfollowed := true, recurses := true, named := ["unicode/utf8.first", "unicode/utf8.acceptRanges", "longstop/decimal.powers", "internal/bytealg.MaxLen"], apart := false, laid := [("unicode/utf8.acceptRanges", laid_unicode_utf8_acceptRanges), ("longstop/decimal.powers", laid_longstop_decimal_powers), ("unicode/utf8.first", laid_unicode_utf8_first)] }
def EvalAllSaid : Prop := evalAllRow.holds Tryz.pinned (OpenSpec.ofChange evalAllSpec)

/-- ITS FALSE NEIGHBOUR: 'it returns false'. Refute it at one input. -/
def evalAllWrong : ChangeSpec := { name := "evalAll", fn := fun _ => fun
  | [d1, d2, d3, d4, d5] => { results := [.lit (.bool false)], args := [d1, d2, d3, d4, d5] }
  | _ => none }
def EvalAllWrongFalsely : Prop := evalAllRow.holds Tryz.pinned (OpenSpec.ofChange evalAllWrong)

/-- 'longstoplaw07.EvalNamed': WHATEVER THE INPUT: true; the input reads as it did. -/
def evalNamedSpec : ChangeSpec := { name := "evalNamed", fn := fun _ => fun
  | [d1, d2, d3, d4] => { results := [.lit (.bool true)], args := [d1, d2, d3, d4] }
  | _ => none }
def evalNamedRow : OpenClaim := { program := "ytnchjdhepakokaagreatdoor", sum := "5f4f5c44dcf47f5bf8b15520de837fbea6d1cf51ace28c98cab05548a3299ba0", func := "longstop/longstoplaw07.EvalNamed", spec := "evalNamed", inPlace := ["math/bits.Sub64", "math/bits.Add64", "math.archFloor", "math.Float64bits", "math.Float64frombits", "math.archTrunc", "internal/bytealg.abigen_runtime_cmpstring", "internal/bytealg.IndexByteString", "internal/bytealg.IndexString"], unfollowed := true, recurses := true, named := ["unicode/utf8.first", "unicode/utf8.acceptRanges", "longstop/decimal.powers", "internal/bytealg.MaxLen"], apart := false, laid := [("unicode/utf8.acceptRanges", laid_unicode_utf8_acceptRanges), ("longstop/decimal.powers", laid_longstop_decimal_powers), ("unicode/utf8.first", laid_unicode_utf8_first)] }
def EvalNamedSaid : Prop := evalNamedRow.holds Tryz.pinned (OpenSpec.ofChange evalNamedSpec)

/-- ITS FALSE NEIGHBOUR: 'it returns false'. Refute it at one input. -/
def evalNamedWrong : ChangeSpec := { name := "evalNamed", fn := fun _ => fun
  | [d1, d2, d3, d4] => { results := [.lit (.bool false)], args := [d1, d2, d3, d4] }
  | _ => none }
def EvalNamedWrongFalsely : Prop := evalNamedRow.holds Tryz.pinned (OpenSpec.ofChange evalNamedWrong)

/-- 'longstoplaw04.DatumTexts': WHATEVER THE INPUT: true; the input reads as it did. -/
def datumTextsSpec : ChangeSpec := { name := "datumTexts", fn := fun _ => fun
  | [d1, d2] => { results := [.lit (.bool true)], args := [d1, d2] }
  | _ => none }
def datumTextsRow : OpenClaim := { program := "ytnchjdhepakokaagreatdoor", sum := "5f4f5c44dcf47f5bf8b15520de837fbea6d1cf51ace28c98cab05548a3299ba0", func := "longstop/longstoplaw04.DatumTexts", spec := "datumTexts", inPlace := ["internal/bytealg.IndexByteString", "internal/bytealg.IndexString", "math/bits.Add64", "math/bits.Sub64", "internal/abi.NoEscape", "internal/bytealg.MakeNoZero", "internal/bytealg.CountString"], unfollowed := true, recurses := true, named := ["unicode/utf8.first", "unicode/utf8.acceptRanges", "internal/bytealg.MaxLen", "strconv.ErrSyntax", "strconv.ErrRange", "internal/strconv.uint64pow10", "math/bits.deBruijn32tab", "math/bits.deBruijn64tab"], apart := false, laid := [("math/bits.deBruijn32tab", laid_math_bits_deBruijn32tab), ("math/bits.deBruijn64tab", laid_math_bits_deBruijn64tab), ("internal/strconv.uint64pow10", laid_internal_strconv_uint64pow10), ("unicode/utf8.acceptRanges", laid_unicode_utf8_acceptRanges), ("strconv.ErrRange", laid_strconv_ErrRange), ("strconv.ErrSyntax", laid_strconv_ErrSyntax), ("unicode/utf8.first", laid_unicode_utf8_first)] }
def DatumTextsSaid : Prop := datumTextsRow.holds Tryz.pinned (OpenSpec.ofChange datumTextsSpec)

/-- ITS FALSE NEIGHBOUR: 'it returns false'. Refute it at one input. -/
def datumTextsWrong : ChangeSpec := { name := "datumTexts", fn := fun _ => fun
  | [d1, d2] => { results := [.lit (.bool false)], args := [d1, d2] }
  | _ => none }
def DatumTextsWrongFalsely : Prop := datumTextsRow.holds Tryz.pinned (OpenSpec.ofChange datumTextsWrong)

/-- 'longstoplaw04.DatumLogic': WHATEVER THE INPUT: true; the input reads as it did. -/
def datumLogicSpec : ChangeSpec := { name := "datumLogic", fn := fun _ => fun
  | [d1, d2, d3] => { results := [.lit (.bool true)], args := [d1, d2, d3] }
  | _ => none }
def datumLogicRow : OpenClaim := { program := "ytnchjdhepakokaagreatdoor", sum := "5f4f5c44dcf47f5bf8b15520de837fbea6d1cf51ace28c98cab05548a3299ba0", func := "longstop/longstoplaw04.DatumLogic", spec := "datumLogic", inPlace := ["internal/bytealg.IndexByteString", "internal/bytealg.IndexString", "math/bits.Add64", "math/bits.Sub64", "internal/abi.NoEscape", "internal/bytealg.MakeNoZero", "internal/bytealg.CountString"], unfollowed := true, recurses := true, named := ["unicode/utf8.first", "unicode/utf8.acceptRanges", "internal/bytealg.MaxLen", "strconv.ErrSyntax", "strconv.ErrRange", "internal/strconv.uint64pow10", "math/bits.deBruijn32tab", "math/bits.deBruijn64tab"], apart := false, laid := [("math/bits.deBruijn32tab", laid_math_bits_deBruijn32tab), ("math/bits.deBruijn64tab", laid_math_bits_deBruijn64tab), ("internal/strconv.uint64pow10", laid_internal_strconv_uint64pow10), ("unicode/utf8.acceptRanges", laid_unicode_utf8_acceptRanges), ("strconv.ErrRange", laid_strconv_ErrRange), ("strconv.ErrSyntax", laid_strconv_ErrSyntax), ("unicode/utf8.first", laid_unicode_utf8_first)] }
def DatumLogicSaid : Prop := datumLogicRow.holds Tryz.pinned (OpenSpec.ofChange datumLogicSpec)

/-- ITS FALSE NEIGHBOUR: 'it returns false'. Refute it at one input. -/
def datumLogicWrong : ChangeSpec := { name := "datumLogic", fn := fun _ => fun
  | [d1, d2, d3] => { results := [.lit (.bool false)], args := [d1, d2, d3] }
  | _ => none }
def DatumLogicWrongFalsely : Prop := datumLogicRow.holds Tryz.pinned (OpenSpec.ofChange datumLogicWrong)

/-- 'longstoplaw04.DatumOrder': WHATEVER THE INPUT: true; the input reads as it did. -/
def datumOrderSpec : ChangeSpec := { name := "datumOrder", fn := fun _ => fun
  | [d1, d2, d3] => { results := [.lit (.bool true)], args := [d1, d2, d3] }
  | _ => none }
def datumOrderRow : OpenClaim := { program := "ytnchjdhepakokaagreatdoor", sum := "5f4f5c44dcf47f5bf8b15520de837fbea6d1cf51ace28c98cab05548a3299ba0", func := "longstop/longstoplaw04.DatumOrder", spec := "datumOrder", inPlace := ["internal/bytealg.IndexByteString", "internal/bytealg.IndexString", "math/bits.Add64", "math/bits.Sub64", "internal/abi.NoEscape", "internal/bytealg.MakeNoZero", "internal/bytealg.CountString", "internal/bytealg.abigen_runtime_cmpstring"], unfollowed := true, recurses := true, named := ["unicode/utf8.first", "unicode/utf8.acceptRanges", "internal/bytealg.MaxLen", "strconv.ErrSyntax", "strconv.ErrRange", "internal/strconv.uint64pow10", "math/bits.deBruijn32tab", "math/bits.deBruijn64tab", "longstop/decimal.powers"], apart := false, laid := [("math/bits.deBruijn32tab", laid_math_bits_deBruijn32tab), ("math/bits.deBruijn64tab", laid_math_bits_deBruijn64tab), ("internal/strconv.uint64pow10", laid_internal_strconv_uint64pow10), ("unicode/utf8.acceptRanges", laid_unicode_utf8_acceptRanges), ("strconv.ErrRange", laid_strconv_ErrRange), ("strconv.ErrSyntax", laid_strconv_ErrSyntax), ("longstop/decimal.powers", laid_longstop_decimal_powers), ("unicode/utf8.first", laid_unicode_utf8_first)] }
def DatumOrderSaid : Prop := datumOrderRow.holds Tryz.pinned (OpenSpec.ofChange datumOrderSpec)

/-- ITS FALSE NEIGHBOUR: 'it returns false'. Refute it at one input. -/
def datumOrderWrong : ChangeSpec := { name := "datumOrder", fn := fun _ => fun
  | [d1, d2, d3] => { results := [.lit (.bool false)], args := [d1, d2, d3] }
  | _ => none }
def DatumOrderWrongFalsely : Prop := datumOrderRow.holds Tryz.pinned (OpenSpec.ofChange datumOrderWrong)

/-- 'longstoplaw04.DatumOrders': WHATEVER THE INPUT: true; the input reads as it did. -/
def datumOrdersSpec : ChangeSpec := { name := "datumOrders", fn := fun _ => fun
  | [d1, d2] => { results := [.lit (.bool true)], args := [d1, d2] }
  | _ => none }
def datumOrdersRow : OpenClaim := { program := "ytnchjdhepakokaagreatdoor", sum := "5f4f5c44dcf47f5bf8b15520de837fbea6d1cf51ace28c98cab05548a3299ba0", func := "longstop/longstoplaw04.DatumOrders", spec := "datumOrders", inPlace := ["internal/bytealg.abigen_runtime_cmpstring", "math/bits.Add64", "math/bits.Sub64", "internal/bytealg.IndexByteString", "internal/bytealg.IndexString", "internal/abi.NoEscape", "internal/bytealg.MakeNoZero", "internal/bytealg.CountString"], unfollowed := true, recurses := true, named := ["unicode/utf8.first", "unicode/utf8.acceptRanges", "longstop/decimal.powers", "internal/bytealg.MaxLen", "strconv.ErrSyntax", "strconv.ErrRange", "internal/strconv.uint64pow10", "math/bits.deBruijn32tab", "math/bits.deBruijn64tab"], apart := false, laid := [("math/bits.deBruijn32tab", laid_math_bits_deBruijn32tab), ("math/bits.deBruijn64tab", laid_math_bits_deBruijn64tab), ("internal/strconv.uint64pow10", laid_internal_strconv_uint64pow10), ("unicode/utf8.acceptRanges", laid_unicode_utf8_acceptRanges), ("strconv.ErrRange", laid_strconv_ErrRange), ("strconv.ErrSyntax", laid_strconv_ErrSyntax), ("longstop/decimal.powers", laid_longstop_decimal_powers), ("unicode/utf8.first", laid_unicode_utf8_first)] }
def DatumOrdersSaid : Prop := datumOrdersRow.holds Tryz.pinned (OpenSpec.ofChange datumOrdersSpec)

/-- ITS FALSE NEIGHBOUR: 'it returns false'. Refute it at one input. -/
def datumOrdersWrong : ChangeSpec := { name := "datumOrders", fn := fun _ => fun
  | [d1, d2] => { results := [.lit (.bool false)], args := [d1, d2] }
  | _ => none }
def DatumOrdersWrongFalsely : Prop := datumOrdersRow.holds Tryz.pinned (OpenSpec.ofChange datumOrdersWrong)

/-- 'longstoplaw04.DatumBack': WHATEVER THE INPUT: true; the input reads as it did. -/
def datumBackSpec : ChangeSpec := { name := "datumBack", fn := fun _ => fun
  | [d] => { results := [.lit (.bool true)], args := [d] }
  | _ => none }
def datumBackRow : OpenClaim := { program := "ytnchjdhepakokaagreatdoor", sum := "5f4f5c44dcf47f5bf8b15520de837fbea6d1cf51ace28c98cab05548a3299ba0", func := "longstop/longstoplaw04.DatumBack", spec := "datumBack", inPlace := ["internal/abi.NoEscape", "internal/bytealg.MakeNoZero", "internal/bytealg.CountString", "internal/bytealg.IndexByteString", "internal/bytealg.IndexString", "math/bits.Add64", "math/bits.Sub64"], unfollowed := true, recurses := true, named := ["unicode/utf8.first", "unicode/utf8.acceptRanges", "internal/strconv.uint64pow10", "math/bits.deBruijn32tab", "math/bits.deBruijn64tab", "internal/bytealg.MaxLen", "strconv.ErrSyntax", "strconv.ErrRange"], apart := false, laid := [("math/bits.deBruijn32tab", laid_math_bits_deBruijn32tab), ("math/bits.deBruijn64tab", laid_math_bits_deBruijn64tab), ("internal/strconv.uint64pow10", laid_internal_strconv_uint64pow10), ("unicode/utf8.acceptRanges", laid_unicode_utf8_acceptRanges), ("strconv.ErrRange", laid_strconv_ErrRange), ("strconv.ErrSyntax", laid_strconv_ErrSyntax), ("unicode/utf8.first", laid_unicode_utf8_first)] }
def DatumBackSaid : Prop := datumBackRow.holds Tryz.pinned (OpenSpec.ofChange datumBackSpec)

/-- ITS FALSE NEIGHBOUR: 'it returns false'. Refute it at one input. -/
def datumBackWrong : ChangeSpec := { name := "datumBack", fn := fun _ => fun
  | [d] => { results := [.lit (.bool false)], args := [d] }
  | _ => none }
def DatumBackWrongFalsely : Prop := datumBackRow.holds Tryz.pinned (OpenSpec.ofChange datumBackWrong)

/-- 'longstoplaw04.DatumKeys': WHATEVER THE INPUT: true; the input reads as it did. -/
def datumKeysSpec : ChangeSpec := { name := "datumKeys", fn := fun _ => fun
  | [d1, d2] => { results := [.lit (.bool true)], args := [d1, d2] }
  | _ => none }
def datumKeysRow : OpenClaim := { program := "ytnchjdhepakokaagreatdoor", sum := "5f4f5c44dcf47f5bf8b15520de837fbea6d1cf51ace28c98cab05548a3299ba0", func := "longstop/longstoplaw04.DatumKeys", spec := "datumKeys", inPlace := ["internal/bytealg.CountString", "internal/bytealg.IndexByteString", "internal/bytealg.IndexString", "internal/abi.NoEscape", "internal/bytealg.MakeNoZero", "math/bits.Add64", "math/bits.Sub64", "internal/bytealg.abigen_runtime_cmpstring"], unfollowed := true, recurses := true, named := ["unicode/utf8.first", "unicode/utf8.acceptRanges", "internal/bytealg.MaxLen", "strconv.ErrSyntax", "strconv.ErrRange", "internal/strconv.uint64pow10", "math/bits.deBruijn32tab", "math/bits.deBruijn64tab", "longstop/decimal.powers"], apart := false, laid := [("math/bits.deBruijn32tab", laid_math_bits_deBruijn32tab), ("math/bits.deBruijn64tab", laid_math_bits_deBruijn64tab), ("internal/strconv.uint64pow10", laid_internal_strconv_uint64pow10), ("unicode/utf8.acceptRanges", laid_unicode_utf8_acceptRanges), ("strconv.ErrRange", laid_strconv_ErrRange), ("strconv.ErrSyntax", laid_strconv_ErrSyntax), ("longstop/decimal.powers", laid_longstop_decimal_powers), ("unicode/utf8.first", laid_unicode_utf8_first)] }
def DatumKeysSaid : Prop := datumKeysRow.holds Tryz.pinned (OpenSpec.ofChange datumKeysSpec)

/-- ITS FALSE NEIGHBOUR: 'it returns false'. Refute it at one input. -/
def datumKeysWrong : ChangeSpec := { name := "datumKeys", fn := fun _ => fun
  | [d1, d2] => { results := [.lit (.bool false)], args := [d1, d2] }
  | _ => none }
def DatumKeysWrongFalsely : Prop := datumKeysRow.holds Tryz.pinned (OpenSpec.ofChange datumKeysWrong)

/-- 'longstoplaw04.DatumBytes': WHATEVER THE INPUT: true; the input reads as it did. -/
def datumBytesSpec : ChangeSpec := { name := "datumBytes", fn := fun _ => fun
  | [d1, d2] => { results := [.lit (.bool true)], args := [d1, d2] }
  | _ => none }
def datumBytesRow : OpenClaim := { program := "ytnchjdhepakokaagreatdoor", sum := "5f4f5c44dcf47f5bf8b15520de837fbea6d1cf51ace28c98cab05548a3299ba0", func := "longstop/longstoplaw04.DatumBytes", spec := "datumBytes", inPlace := ["internal/bytealg.CountString", "internal/bytealg.IndexByteString", "internal/bytealg.IndexString", "internal/abi.NoEscape", "internal/bytealg.MakeNoZero", "math/bits.Add64", "math/bits.Sub64"], unfollowed := true, recurses := true, named := ["unicode/utf8.first", "unicode/utf8.acceptRanges", "internal/bytealg.MaxLen", "strconv.ErrSyntax", "strconv.ErrRange", "internal/strconv.uint64pow10", "math/bits.deBruijn32tab", "math/bits.deBruijn64tab"], apart := false, laid := [("math/bits.deBruijn32tab", laid_math_bits_deBruijn32tab), ("math/bits.deBruijn64tab", laid_math_bits_deBruijn64tab), ("internal/strconv.uint64pow10", laid_internal_strconv_uint64pow10), ("unicode/utf8.acceptRanges", laid_unicode_utf8_acceptRanges), ("strconv.ErrRange", laid_strconv_ErrRange), ("strconv.ErrSyntax", laid_strconv_ErrSyntax), ("unicode/utf8.first", laid_unicode_utf8_first)] }
def DatumBytesSaid : Prop := datumBytesRow.holds Tryz.pinned (OpenSpec.ofChange datumBytesSpec)

/-- ITS FALSE NEIGHBOUR: 'it returns false'. Refute it at one input. -/
def datumBytesWrong : ChangeSpec := { name := "datumBytes", fn := fun _ => fun
  | [d1, d2] => { results := [.lit (.bool false)], args := [d1, d2] }
  | _ => none }
def DatumBytesWrongFalsely : Prop := datumBytesRow.holds Tryz.pinned (OpenSpec.ofChange datumBytesWrong)

/- THE SECOND FORM. 'bulk': how many values and letters a reading holds, each counted each time it is reached (what is shared counts as often as it is met; a slice's spare places count too). A statement '..UptoSaid' is the law's where the arguments, and the package variables that the reading takes, are together of bulk at most 1048576: NARROWER than '..Said'. Prove '..Said' where nothing that the law and all that it calls make is longer than what came in: it says more and counts as full. Else prove '..UptoSaid'. A law counts once. -/
mutual
def uptoBulk {H : Type} : DataW H → Nat
  | .lit (.string bytes) => bytes.length + 1
  | .lit _ => 1
  | .nil => 1
  | .ptr d => uptoBulk d + 1
  | .slice elems spare => uptoBulkAll elems + uptoBulkAll spare + 1
  | .agg parts => uptoBulkAll parts + 1
  | .iface _ d => uptoBulk d + 1
  | .map entries => uptoBulkEntries entries + 1
  | .held _ => 1
def uptoBulkAll {H : Type} : List (DataW H) → Nat
  | [] => 0
  | d :: r => uptoBulk d + uptoBulkAll r
def uptoBulkEntries {H : Type} : List (Lit × DataW H) → Nat
  | [] => 0
  | x :: r => uptoBulkEntry x + uptoBulkEntries r
def uptoBulkEntry {H : Type} : Lit × DataW H → Nat
  | (.string bytes, d) => bytes.length + uptoBulk d + 1
  | (_, d) => uptoBulk d + 1
 end
def uptoSmall : (H : Type) → List (DataW H) → Bool := fun _ ds => decide (uptoBulkAll ds ≤ 1048576)
def OpenSpec.upto (s : _root_.Go.ChangeSpec) : _root_.Go.OpenSpec := { _root_.Go.OpenSpec.ofChange s with cond := some uptoSmall }

/-- 'longstoplaw07.EvalFunctions', WHERE WHAT IT READS IS OF BULK AT MOST 1048576: true; the input reads as it did. -/
def evalFunctionsUptoRow : OpenClaim := { program := "ytnchjdhepakokaagreatdoor", sum := "5f4f5c44dcf47f5bf8b15520de837fbea6d1cf51ace28c98cab05548a3299ba0", func := "longstop/longstoplaw07.EvalFunctions", spec := "evalFunctions", inPlace := ["math/bits.Add64", "math/bits.Sub64", "math.archFloor", "math.Float64bits", "math.Float64frombits", "math.archTrunc", "internal/bytealg.abigen_runtime_cmpstring"], unfollowed := true, recurses := true, named := ["unicode/utf8.first", "unicode/utf8.acceptRanges", "longstop/decimal.powers"], apart := false, laid := [("unicode/utf8.acceptRanges", laid_unicode_utf8_acceptRanges), ("longstop/decimal.powers", laid_longstop_decimal_powers), ("unicode/utf8.first", laid_unicode_utf8_first)], narrowed := true }
def EvalFunctionsUptoSaid : Prop := evalFunctionsUptoRow.holds Tryz.pinned (OpenSpec.upto evalFunctionsSpec)

/-- 'longstoplaw07.EvalSteps', WHERE WHAT IT READS IS OF BULK AT MOST 1048576: true; the input reads as it did. -/
def evalStepsUptoRow : OpenClaim := { program := "ytnchjdhepakokaagreatdoor", sum := "5f4f5c44dcf47f5bf8b15520de837fbea6d1cf51ace28c98cab05548a3299ba0", func := "longstop/longstoplaw07.EvalSteps", spec := "evalSteps", inPlace := ["math/bits.Add64", "math/bits.Sub64", "math.archFloor", "math.Float64bits", "math.Float64frombits", "math.archTrunc", "internal/bytealg.abigen_runtime_cmpstring"], unfollowed := true, recurses := true, named := ["unicode/utf8.first", "unicode/utf8.acceptRanges", "longstop/decimal.powers"], apart := false, laid := [("unicode/utf8.acceptRanges", laid_unicode_utf8_acceptRanges), ("longstop/decimal.powers", laid_longstop_decimal_powers), ("unicode/utf8.first", laid_unicode_utf8_first)], narrowed := true }
def EvalStepsUptoSaid : Prop := evalStepsUptoRow.holds Tryz.pinned (OpenSpec.upto evalStepsSpec)

/-- 'longstoplaw07.EvalRight', WHERE WHAT IT READS IS OF BULK AT MOST 1048576: true; the input reads as it did. -/
def evalRightUptoRow : OpenClaim := { program := "ytnchjdhepakokaagreatdoor", sum := "5f4f5c44dcf47f5bf8b15520de837fbea6d1cf51ace28c98cab05548a3299ba0", func := "longstop/longstoplaw07.EvalRight", spec := "evalRight", inPlace := ["math/bits.Sub64", "math/bits.Add64", "math.archFloor", "math.Float64bits", "math.Float64frombits", "math.archTrunc", "internal/bytealg.abigen_runtime_cmpstring"], unfollowed := true, recurses := true, named := ["unicode/utf8.first", "unicode/utf8.acceptRanges", "longstop/decimal.powers"], apart := false, laid := [("unicode/utf8.acceptRanges", laid_unicode_utf8_acceptRanges), ("longstop/decimal.powers", laid_longstop_decimal_powers), ("unicode/utf8.first", laid_unicode_utf8_first)], narrowed := true }
def EvalRightUptoSaid : Prop := evalRightUptoRow.holds Tryz.pinned (OpenSpec.upto evalRightSpec)

/-- 'longstoplaw07.EvalNulls', WHERE WHAT IT READS IS OF BULK AT MOST 1048576: true; the input reads as it did. -/
def evalNullsUptoRow : OpenClaim := { program := "ytnchjdhepakokaagreatdoor", sum := "5f4f5c44dcf47f5bf8b15520de837fbea6d1cf51ace28c98cab05548a3299ba0", func := "longstop/longstoplaw07.EvalNulls", spec := "evalNulls", inPlace := ["math/bits.Sub64", "math/bits.Add64", "math.archFloor", "math.Float64bits", "math.Float64frombits", "math.archTrunc", "internal/bytealg.abigen_runtime_cmpstring"], unfollowed := true, recurses := true, named := ["unicode/utf8.first", "unicode/utf8.acceptRanges", "longstop/decimal.powers"], apart := false, laid := [("unicode/utf8.acceptRanges", laid_unicode_utf8_acceptRanges), ("longstop/decimal.powers", laid_longstop_decimal_powers), ("unicode/utf8.first", laid_unicode_utf8_first)], narrowed := true }
def EvalNullsUptoSaid : Prop := evalNullsUptoRow.holds Tryz.pinned (OpenSpec.upto evalNullsSpec)

/-- 'longstoplaw07.EvalAll', WHERE WHAT IT READS IS OF BULK AT MOST 1048576: true; the input reads as it did. -/
def evalAllUptoRow : OpenClaim := { program := "ytnchjdhepakokaagreatdoor", sum := "5f4f5c44dcf47f5bf8b15520de837fbea6d1cf51ace28c98cab05548a3299ba0", func := "longstop/longstoplaw07.EvalAll", spec := "evalAll", inPlace := ["math/bits.Sub64", "math/bits.Add64", "math.archFloor", "math.Float64bits", "math.Float64frombits", "math.archTrunc", "internal/bytealg.abigen_runtime_cmpstring", "internal/bytealg.IndexByteString", "internal/bytealg.IndexString"], unfollowed := true, recurses := true, named := ["unicode/utf8.first", "unicode/utf8.acceptRanges", "longstop/decimal.powers", "internal/bytealg.MaxLen"], apart := false, laid := [("unicode/utf8.acceptRanges", laid_unicode_utf8_acceptRanges), ("longstop/decimal.powers", laid_longstop_decimal_powers), ("unicode/utf8.first", laid_unicode_utf8_first)], narrowed := true }
def EvalAllUptoSaid : Prop := evalAllUptoRow.holds Tryz.pinned (OpenSpec.upto evalAllSpec)

/-- 'longstoplaw07.EvalNamed', WHERE WHAT IT READS IS OF BULK AT MOST 1048576: true; the input reads as it did. -/
def evalNamedUptoRow : OpenClaim := { program := "ytnchjdhepakokaagreatdoor", sum := "5f4f5c44dcf47f5bf8b15520de837fbea6d1cf51ace28c98cab05548a3299ba0", func := "longstop/longstoplaw07.EvalNamed", spec := "evalNamed", inPlace := ["math/bits.Sub64", "math/bits.Add64", "math.archFloor", "math.Float64bits", "math.Float64frombits", "math.archTrunc", "internal/bytealg.abigen_runtime_cmpstring", "internal/bytealg.IndexByteString", "internal/bytealg.IndexString"], unfollowed := true, recurses := true, named := ["unicode/utf8.first", "unicode/utf8.acceptRanges", "longstop/decimal.powers", "internal/bytealg.MaxLen"], apart := false, laid := [("unicode/utf8.acceptRanges", laid_unicode_utf8_acceptRanges), ("longstop/decimal.powers", laid_longstop_decimal_powers), ("unicode/utf8.first", laid_unicode_utf8_first)], narrowed := true }
def EvalNamedUptoSaid : Prop := evalNamedUptoRow.holds Tryz.pinned (OpenSpec.upto evalNamedSpec)

/-- 'longstoplaw04.DatumTexts', WHERE WHAT IT READS IS OF BULK AT MOST 1048576: true; the input reads as it did. -/
def datumTextsUptoRow : OpenClaim := { program := "ytnchjdhepakokaagreatdoor", sum := "5f4f5c44dcf47f5bf8b15520de837fbea6d1cf51ace28c98cab05548a3299ba0", func := "longstop/longstoplaw04.DatumTexts", spec := "datumTexts", inPlace := ["internal/bytealg.IndexByteString", "internal/bytealg.IndexString", "math/bits.Add64", "math/bits.Sub64", "internal/abi.NoEscape", "internal/bytealg.MakeNoZero", "internal/bytealg.CountString"], unfollowed := true, recurses := true, named := ["unicode/utf8.first", "unicode/utf8.acceptRanges", "internal/bytealg.MaxLen", "strconv.ErrSyntax", "strconv.ErrRange", "internal/strconv.uint64pow10", "math/bits.deBruijn32tab", "math/bits.deBruijn64tab"], apart := false, laid := [("math/bits.deBruijn32tab", laid_math_bits_deBruijn32tab), ("math/bits.deBruijn64tab", laid_math_bits_deBruijn64tab), ("internal/strconv.uint64pow10", laid_internal_strconv_uint64pow10), ("unicode/utf8.acceptRanges", laid_unicode_utf8_acceptRanges), ("strconv.ErrRange", laid_strconv_ErrRange), ("strconv.ErrSyntax", laid_strconv_ErrSyntax), ("unicode/utf8.first", laid_unicode_utf8_first)], narrowed := true }
def DatumTextsUptoSaid : Prop := datumTextsUptoRow.holds Tryz.pinned (OpenSpec.upto datumTextsSpec)

/-- 'longstoplaw04.DatumLogic', WHERE WHAT IT READS IS OF BULK AT MOST 1048576: true; the input reads as it did. -/
def datumLogicUptoRow : OpenClaim := { program := "ytnchjdhepakokaagreatdoor", sum := "5f4f5c44dcf47f5bf8b15520de837fbea6d1cf51ace28c98cab05548a3299ba0", func := "longstop/longstoplaw04.DatumLogic", spec := "datumLogic", inPlace := ["internal/bytealg.IndexByteString", "internal/bytealg.IndexString", "math/bits.Add64", "math/bits.Sub64", "internal/abi.NoEscape", "internal/bytealg.MakeNoZero", "internal/bytealg.CountString"], unfollowed := true, recurses := true, named := ["unicode/utf8.first", "unicode/utf8.acceptRanges", "internal/bytealg.MaxLen", "strconv.ErrSyntax", "strconv.ErrRange", "internal/strconv.uint64pow10", "math/bits.deBruijn32tab", "math/bits.deBruijn64tab"], apart := false, laid := [("math/bits.deBruijn32tab", laid_math_bits_deBruijn32tab), ("math/bits.deBruijn64tab", laid_math_bits_deBruijn64tab), ("internal/strconv.uint64pow10", laid_internal_strconv_uint64pow10), ("unicode/utf8.acceptRanges", laid_unicode_utf8_acceptRanges), ("strconv.ErrRange", laid_strconv_ErrRange), ("strconv.ErrSyntax", laid_strconv_ErrSyntax), ("unicode/utf8.first", laid_unicode_utf8_first)], narrowed := true }
def DatumLogicUptoSaid : Prop := datumLogicUptoRow.holds Tryz.pinned (OpenSpec.upto datumLogicSpec)

/-- 'longstoplaw04.DatumOrder', WHERE WHAT IT READS IS OF BULK AT MOST 1048576: true; the input reads as it did. -/
def datumOrderUptoRow : OpenClaim := { program := "ytnchjdhepakokaagreatdoor", sum := "5f4f5c44dcf47f5bf8b15520de837fbea6d1cf51ace28c98cab05548a3299ba0", func := "longstop/longstoplaw04.DatumOrder", spec := "datumOrder", inPlace := ["internal/bytealg.IndexByteString", "internal/bytealg.IndexString", "math/bits.Add64", "math/bits.Sub64", "internal/abi.NoEscape", "internal/bytealg.MakeNoZero", "internal/bytealg.CountString", "internal/bytealg.abigen_runtime_cmpstring"], unfollowed := true, recurses := true, named := ["unicode/utf8.first", "unicode/utf8.acceptRanges", "internal/bytealg.MaxLen", "strconv.ErrSyntax", "strconv.ErrRange", "internal/strconv.uint64pow10", "math/bits.deBruijn32tab", "math/bits.deBruijn64tab", "longstop/decimal.powers"], apart := false, laid := [("math/bits.deBruijn32tab", laid_math_bits_deBruijn32tab), ("math/bits.deBruijn64tab", laid_math_bits_deBruijn64tab), ("internal/strconv.uint64pow10", laid_internal_strconv_uint64pow10), ("unicode/utf8.acceptRanges", laid_unicode_utf8_acceptRanges), ("strconv.ErrRange", laid_strconv_ErrRange), ("strconv.ErrSyntax", laid_strconv_ErrSyntax), ("longstop/decimal.powers", laid_longstop_decimal_powers), ("unicode/utf8.first", laid_unicode_utf8_first)], narrowed := true }
def DatumOrderUptoSaid : Prop := datumOrderUptoRow.holds Tryz.pinned (OpenSpec.upto datumOrderSpec)

/-- 'longstoplaw04.DatumOrders', WHERE WHAT IT READS IS OF BULK AT MOST 1048576: true; the input reads as it did. -/
def datumOrdersUptoRow : OpenClaim := { program := "ytnchjdhepakokaagreatdoor", sum := "5f4f5c44dcf47f5bf8b15520de837fbea6d1cf51ace28c98cab05548a3299ba0", func := "longstop/longstoplaw04.DatumOrders", spec := "datumOrders", inPlace := ["internal/bytealg.abigen_runtime_cmpstring", "math/bits.Add64", "math/bits.Sub64", "internal/bytealg.IndexByteString", "internal/bytealg.IndexString", "internal/abi.NoEscape", "internal/bytealg.MakeNoZero", "internal/bytealg.CountString"], unfollowed := true, recurses := true, named := ["unicode/utf8.first", "unicode/utf8.acceptRanges", "longstop/decimal.powers", "internal/bytealg.MaxLen", "strconv.ErrSyntax", "strconv.ErrRange", "internal/strconv.uint64pow10", "math/bits.deBruijn32tab", "math/bits.deBruijn64tab"], apart := false, laid := [("math/bits.deBruijn32tab", laid_math_bits_deBruijn32tab), ("math/bits.deBruijn64tab", laid_math_bits_deBruijn64tab), ("internal/strconv.uint64pow10", laid_internal_strconv_uint64pow10), ("unicode/utf8.acceptRanges", laid_unicode_utf8_acceptRanges), ("strconv.ErrRange", laid_strconv_ErrRange), ("strconv.ErrSyntax", laid_strconv_ErrSyntax), ("longstop/decimal.powers", laid_longstop_decimal_powers), ("unicode/utf8.first", laid_unicode_utf8_first)], narrowed := true }
def DatumOrdersUptoSaid : Prop := datumOrdersUptoRow.holds Tryz.pinned (OpenSpec.upto datumOrdersSpec)

/-- 'longstoplaw04.DatumBack', WHERE WHAT IT READS IS OF BULK AT MOST 1048576: true; the input reads as it did. -/
def datumBackUptoRow : OpenClaim := { program := "ytnchjdhepakokaagreatdoor", sum := "5f4f5c44dcf47f5bf8b15520de837fbea6d1cf51ace28c98cab05548a3299ba0", func := "longstop/longstoplaw04.DatumBack", spec := "datumBack", inPlace := ["internal/abi.NoEscape", "internal/bytealg.MakeNoZero", "internal/bytealg.CountString", "internal/bytealg.IndexByteString", "internal/bytealg.IndexString", "math/bits.Add64", "math/bits.Sub64"], unfollowed := true, recurses := true, named := ["unicode/utf8.first", "unicode/utf8.acceptRanges", "internal/strconv.uint64pow10", "math/bits.deBruijn32tab", "math/bits.deBruijn64tab", "internal/bytealg.MaxLen", "strconv.ErrSyntax", "strconv.ErrRange"], apart := false, laid := [("math/bits.deBruijn32tab", laid_math_bits_deBruijn32tab), ("math/bits.deBruijn64tab", laid_math_bits_deBruijn64tab), ("internal/strconv.uint64pow10", laid_internal_strconv_uint64pow10), ("unicode/utf8.acceptRanges", laid_unicode_utf8_acceptRanges), ("strconv.ErrRange", laid_strconv_ErrRange), ("strconv.ErrSyntax", laid_strconv_ErrSyntax), ("unicode/utf8.first", laid_unicode_utf8_first)], narrowed := true }
def DatumBackUptoSaid : Prop := datumBackUptoRow.holds Tryz.pinned (OpenSpec.upto datumBackSpec)

/-- 'longstoplaw04.DatumKeys', WHERE WHAT IT READS IS OF BULK AT MOST 1048576: true; the input reads as it did. -/
def datumKeysUptoRow : OpenClaim := { program := "ytnchjdhepakokaagreatdoor", sum := "5f4f5c44dcf47f5bf8b15520de837fbea6d1cf51ace28c98cab05548a3299ba0", func := "longstop/longstoplaw04.DatumKeys", spec := "datumKeys", inPlace := ["internal/bytealg.CountString", "internal/bytealg.IndexByteString", "internal/bytealg.IndexString", "internal/abi.NoEscape", "internal/bytealg.MakeNoZero", "math/bits.Add64", "math/bits.Sub64", "internal/bytealg.abigen_runtime_cmpstring"], unfollowed := true, recurses := true, named := ["unicode/utf8.first", "unicode/utf8.acceptRanges", "internal/bytealg.MaxLen", "strconv.ErrSyntax", "strconv.ErrRange", "internal/strconv.uint64pow10", "math/bits.deBruijn32tab", "math/bits.deBruijn64tab", "longstop/decimal.powers"], apart := false, laid := [("math/bits.deBruijn32tab", laid_math_bits_deBruijn32tab), ("math/bits.deBruijn64tab", laid_math_bits_deBruijn64tab), ("internal/strconv.uint64pow10", laid_internal_strconv_uint64pow10), ("unicode/utf8.acceptRanges", laid_unicode_utf8_acceptRanges), ("strconv.ErrRange", laid_strconv_ErrRange), ("strconv.ErrSyntax", laid_strconv_ErrSyntax), ("longstop/decimal.powers", laid_longstop_decimal_powers), ("unicode/utf8.first", laid_unicode_utf8_first)], narrowed := true }
def DatumKeysUptoSaid : Prop := datumKeysUptoRow.holds Tryz.pinned (OpenSpec.upto datumKeysSpec)

/-- 'longstoplaw04.DatumBytes', WHERE WHAT IT READS IS OF BULK AT MOST 1048576: true; the input reads as it did. -/
def datumBytesUptoRow : OpenClaim := { program := "ytnchjdhepakokaagreatdoor", sum := "5f4f5c44dcf47f5bf8b15520de837fbea6d1cf51ace28c98cab05548a3299ba0", func := "longstop/longstoplaw04.DatumBytes", spec := "datumBytes", inPlace := ["internal/bytealg.CountString", "internal/bytealg.IndexByteString", "internal/bytealg.IndexString", "internal/abi.NoEscape", "internal/bytealg.MakeNoZero", "math/bits.Add64", "math/bits.Sub64"], unfollowed := true, recurses := true, named := ["unicode/utf8.first", "unicode/utf8.acceptRanges", "internal/bytealg.MaxLen", "strconv.ErrSyntax", "strconv.ErrRange", "internal/strconv.uint64pow10", "math/bits.deBruijn32tab", "math/bits.deBruijn64tab"], apart := false, laid := [("math/bits.deBruijn32tab", laid_math_bits_deBruijn32tab), ("math/bits.deBruijn64tab", laid_math_bits_deBruijn64tab), ("internal/strconv.uint64pow10", laid_internal_strconv_uint64pow10), ("unicode/utf8.acceptRanges", laid_unicode_utf8_acceptRanges), ("strconv.ErrRange", laid_strconv_ErrRange), ("strconv.ErrSyntax", laid_strconv_ErrSyntax), ("unicode/utf8.first", laid_unicode_utf8_first)], narrowed := true }
def DatumBytesUptoSaid : Prop := datumBytesUptoRow.holds Tryz.pinned (OpenSpec.upto datumBytesSpec)

end Rows
end Go.Proofs.YtnchjdhepakokaaGreatDoor
