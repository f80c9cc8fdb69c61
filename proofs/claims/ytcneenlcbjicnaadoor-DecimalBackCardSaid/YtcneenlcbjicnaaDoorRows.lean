/-
  NARROWER THAN 'FOR EVERY INPUT', by the rows' own cells (each row's printed sentence says how): DecimalNear: laid · DecimalTimes: laid · DecimalOrder: laid · DecimalSigns: laid · DecimalSums: laid · DecimalInts: laid · DecimalLaws: laid · DecimalTexts: laid · DecimalBack: laid.
  DERIVED. THE GIVEN ROWS OF THIS SEAT. 9 by the template 'for every input the law returns true; each argument reads behind the call as it read before'; 0 by the template 'total and deterministic' (their statements: YtcneenlcbjicnaaDoorTotals.lean).
  GIVEN WITH THE SEED: the statements are not yours to turn. If you find one false, say at which input.
  Laid BY PROGRAM, IN A SANDBOX (cutbox-rows.mjs): the forced cells as the released guide's own fill.sh prints them over the translation 669cb94b0e814b37… (all of the seat's roots in one cut). By AI agents, Wed Nov 11 2026. No macro, syntax, notation, axiom, sorry.
-/
import Derived.Test.YtcneenlcbjicnaaDoorChecked
import GoSem.Claim
import GoSem.ClaimJoined
import GoSem.ClaimMapViews
import Derived.JoinedTies
import Derived.KernelRfl
namespace Go.Proofs.YtcneenlcbjicnaaDoor
/- THE CELL 'sum', in the pinned program and in every row, IS THE sha256 OF THE DUMP (.gsa) THAT YtcneenlcbjicnaaDoorProg.lean LOADS. Nothing in Lean hashes anything: it is a label: what it is worth is what the hold of that sum in a sandbox is worth. -/
noncomputable def Tryd.pinned : Pinned := { name := "ytcneenlcbjicnaadoor", sum := "669cb94b0e814b374a2a528eba4ad2fab9f0407abf9bb5b99b3428aac39e09cf", checked := Tryd.checked }
namespace Rows
def none {H : Type} : Left H := { results := [], args := [] }

/- WHAT THE LISTED PACKAGE-LEVEL VARIABLES READ AS WHEN THE CALL BEGINS. Each datum BY PROGRAM (the guide's laid-datum.mjs) off the statement by which the dump's own 'gosem.cut.vars' lays the variable. In a bare row this is a premise. The card (YtcneenlcbjicnaaDoorCards.lean) ties it to the program's text. -/
def laid_math_bits_deBruijn32tab {H : Type} : DataW H := .agg [.lit (.int .u8 0), .lit (.int .u8 1), .lit (.int .u8 28), .lit (.int .u8 2), .lit (.int .u8 29), .lit (.int .u8 14), .lit (.int .u8 24), .lit (.int .u8 3), .lit (.int .u8 30), .lit (.int .u8 22), .lit (.int .u8 20), .lit (.int .u8 15), .lit (.int .u8 25), .lit (.int .u8 17), .lit (.int .u8 4), .lit (.int .u8 8), .lit (.int .u8 31), .lit (.int .u8 27), .lit (.int .u8 13), .lit (.int .u8 23), .lit (.int .u8 21), .lit (.int .u8 19), .lit (.int .u8 16), .lit (.int .u8 7), .lit (.int .u8 26), .lit (.int .u8 12), .lit (.int .u8 18), .lit (.int .u8 6), .lit (.int .u8 11), .lit (.int .u8 5), .lit (.int .u8 10), .lit (.int .u8 9)]
def laid_math_bits_deBruijn64tab {H : Type} : DataW H := .agg [.lit (.int .u8 0), .lit (.int .u8 1), .lit (.int .u8 56), .lit (.int .u8 2), .lit (.int .u8 57), .lit (.int .u8 49), .lit (.int .u8 28), .lit (.int .u8 3), .lit (.int .u8 61), .lit (.int .u8 58), .lit (.int .u8 42), .lit (.int .u8 50), .lit (.int .u8 38), .lit (.int .u8 29), .lit (.int .u8 17), .lit (.int .u8 4), .lit (.int .u8 62), .lit (.int .u8 47), .lit (.int .u8 59), .lit (.int .u8 36), .lit (.int .u8 45), .lit (.int .u8 43), .lit (.int .u8 51), .lit (.int .u8 22), .lit (.int .u8 53), .lit (.int .u8 39), .lit (.int .u8 33), .lit (.int .u8 30), .lit (.int .u8 24), .lit (.int .u8 18), .lit (.int .u8 12), .lit (.int .u8 5), .lit (.int .u8 63), .lit (.int .u8 55), .lit (.int .u8 48), .lit (.int .u8 27), .lit (.int .u8 60), .lit (.int .u8 41), .lit (.int .u8 37), .lit (.int .u8 16), .lit (.int .u8 46), .lit (.int .u8 35), .lit (.int .u8 44), .lit (.int .u8 21), .lit (.int .u8 52), .lit (.int .u8 32), .lit (.int .u8 23), .lit (.int .u8 11), .lit (.int .u8 54), .lit (.int .u8 26), .lit (.int .u8 40), .lit (.int .u8 15), .lit (.int .u8 34), .lit (.int .u8 20), .lit (.int .u8 31), .lit (.int .u8 10), .lit (.int .u8 25), .lit (.int .u8 14), .lit (.int .u8 19), .lit (.int .u8 9), .lit (.int .u8 13), .lit (.int .u8 8), .lit (.int .u8 7), .lit (.int .u8 6)]
def laid_internal_strconv_uint64pow10 {H : Type} : DataW H := .agg [.lit (.int .u64 1), .lit (.int .u64 10), .lit (.int .u64 100), .lit (.int .u64 1000), .lit (.int .u64 10000), .lit (.int .u64 100000), .lit (.int .u64 1000000), .lit (.int .u64 10000000), .lit (.int .u64 100000000), .lit (.int .u64 1000000000), .lit (.int .u64 10000000000), .lit (.int .u64 100000000000), .lit (.int .u64 1000000000000), .lit (.int .u64 10000000000000), .lit (.int .u64 100000000000000), .lit (.int .u64 1000000000000000), .lit (.int .u64 10000000000000000), .lit (.int .u64 100000000000000000), .lit (.int .u64 1000000000000000000), .lit (.int .u64 10000000000000000000)]
def laid_longstop_decimal_powers {H : Type} : DataW H := .agg [.lit (.int .u64 1), .lit (.int .u64 10), .lit (.int .u64 100), .lit (.int .u64 1000), .lit (.int .u64 10000), .lit (.int .u64 100000), .lit (.int .u64 1000000), .lit (.int .u64 10000000), .lit (.int .u64 100000000), .lit (.int .u64 1000000000), .lit (.int .u64 10000000000), .lit (.int .u64 100000000000), .lit (.int .u64 1000000000000)]

/-- 'longstoplaw02.DecimalNear': WHATEVER THE INPUT: true; the input reads as it did. -/
def decimalNearSpec : ChangeSpec := { name := "decimalNear", fn := fun _ => fun
  | [d1, d2] => { results := [.lit (.bool true)], args := [d1, d2] }
  | _ => none }
def decimalNearRow : OpenClaim := { program := "ytcneenlcbjicnaadoor", sum := "669cb94b0e814b374a2a528eba4ad2fab9f0407abf9bb5b99b3428aac39e09cf", func := "longstop/longstoplaw02.DecimalNear", spec := "decimalNear", inPlace := ["math/bits.Sub64", "math/bits.Add64", "internal/abi.NoEscape", "internal/bytealg.MakeNoZero"], named := ["longstop/decimal.powers", "internal/strconv.uint64pow10", "math/bits.deBruijn32tab", "math/bits.deBruijn64tab"], apart := false, laid := [("math/bits.deBruijn32tab", laid_math_bits_deBruijn32tab), ("math/bits.deBruijn64tab", laid_math_bits_deBruijn64tab), ("internal/strconv.uint64pow10", laid_internal_strconv_uint64pow10), ("longstop/decimal.powers", laid_longstop_decimal_powers)] }
def DecimalNearSaid : Prop := decimalNearRow.holds Tryd.pinned (OpenSpec.ofChange decimalNearSpec)

/-- ITS FALSE NEIGHBOUR: 'it returns false'. Refute it at one input. -/
def decimalNearWrong : ChangeSpec := { name := "decimalNear", fn := fun _ => fun
  | [d1, d2] => { results := [.lit (.bool false)], args := [d1, d2] }
  | _ => none }
def DecimalNearWrongFalsely : Prop := decimalNearRow.holds Tryd.pinned (OpenSpec.ofChange decimalNearWrong)

/-- 'longstoplaw02.DecimalTimes': WHATEVER THE INPUT: true; the input reads as it did. -/
def decimalTimesSpec : ChangeSpec := { name := "decimalTimes", fn := fun _ => fun
  | [d1, d2, d3] => { results := [.lit (.bool true)], args := [d1, d2, d3] }
  | _ => none }
def decimalTimesRow : OpenClaim := { program := "ytcneenlcbjicnaadoor", sum := "669cb94b0e814b374a2a528eba4ad2fab9f0407abf9bb5b99b3428aac39e09cf", func := "longstop/longstoplaw02.DecimalTimes", spec := "decimalTimes", inPlace := ["math/bits.Sub64", "math/bits.Add64", "internal/abi.NoEscape", "internal/bytealg.MakeNoZero"], named := ["longstop/decimal.powers", "internal/strconv.uint64pow10", "math/bits.deBruijn32tab", "math/bits.deBruijn64tab"], apart := false, laid := [("math/bits.deBruijn32tab", laid_math_bits_deBruijn32tab), ("math/bits.deBruijn64tab", laid_math_bits_deBruijn64tab), ("internal/strconv.uint64pow10", laid_internal_strconv_uint64pow10), ("longstop/decimal.powers", laid_longstop_decimal_powers)] }
def DecimalTimesSaid : Prop := decimalTimesRow.holds Tryd.pinned (OpenSpec.ofChange decimalTimesSpec)

/-- ITS FALSE NEIGHBOUR: 'it returns false'. Refute it at one input. -/
def decimalTimesWrong : ChangeSpec := { name := "decimalTimes", fn := fun _ => fun
  | [d1, d2, d3] => { results := [.lit (.bool false)], args := [d1, d2, d3] }
  | _ => none }
def DecimalTimesWrongFalsely : Prop := decimalTimesRow.holds Tryd.pinned (OpenSpec.ofChange decimalTimesWrong)

/-- 'longstoplaw02.DecimalOrder': WHATEVER THE INPUT: true; the input reads as it did. -/
def decimalOrderSpec : ChangeSpec := { name := "decimalOrder", fn := fun _ => fun
  | [d1, d2, d3, d4] => { results := [.lit (.bool true)], args := [d1, d2, d3, d4] }
  | _ => none }
def decimalOrderRow : OpenClaim := { program := "ytcneenlcbjicnaadoor", sum := "669cb94b0e814b374a2a528eba4ad2fab9f0407abf9bb5b99b3428aac39e09cf", func := "longstop/longstoplaw02.DecimalOrder", spec := "decimalOrder", inPlace := ["math/bits.Sub64", "math/bits.Add64", "internal/abi.NoEscape", "internal/bytealg.MakeNoZero"], named := ["longstop/decimal.powers", "internal/strconv.uint64pow10", "math/bits.deBruijn32tab", "math/bits.deBruijn64tab"], apart := false, laid := [("math/bits.deBruijn32tab", laid_math_bits_deBruijn32tab), ("math/bits.deBruijn64tab", laid_math_bits_deBruijn64tab), ("internal/strconv.uint64pow10", laid_internal_strconv_uint64pow10), ("longstop/decimal.powers", laid_longstop_decimal_powers)] }
def DecimalOrderSaid : Prop := decimalOrderRow.holds Tryd.pinned (OpenSpec.ofChange decimalOrderSpec)

/-- ITS FALSE NEIGHBOUR: 'it returns false'. Refute it at one input. -/
def decimalOrderWrong : ChangeSpec := { name := "decimalOrder", fn := fun _ => fun
  | [d1, d2, d3, d4] => { results := [.lit (.bool false)], args := [d1, d2, d3, d4] }
  | _ => none }
def DecimalOrderWrongFalsely : Prop := decimalOrderRow.holds Tryd.pinned (OpenSpec.ofChange decimalOrderWrong)

/-- 'longstoplaw02.DecimalSigns': WHATEVER THE INPUT: true; the input reads as it did. -/
def decimalSignsSpec : ChangeSpec := { name := "decimalSigns", fn := fun _ => fun
  | [d1, d2] => { results := [.lit (.bool true)], args := [d1, d2] }
  | _ => none }
def decimalSignsRow : OpenClaim := { program := "ytcneenlcbjicnaadoor", sum := "669cb94b0e814b374a2a528eba4ad2fab9f0407abf9bb5b99b3428aac39e09cf", func := "longstop/longstoplaw02.DecimalSigns", spec := "decimalSigns", inPlace := ["math/bits.Add64", "math/bits.Sub64", "internal/abi.NoEscape", "internal/bytealg.MakeNoZero"], named := ["longstop/decimal.powers", "internal/strconv.uint64pow10", "math/bits.deBruijn32tab", "math/bits.deBruijn64tab"], apart := false, laid := [("math/bits.deBruijn32tab", laid_math_bits_deBruijn32tab), ("math/bits.deBruijn64tab", laid_math_bits_deBruijn64tab), ("internal/strconv.uint64pow10", laid_internal_strconv_uint64pow10), ("longstop/decimal.powers", laid_longstop_decimal_powers)] }
def DecimalSignsSaid : Prop := decimalSignsRow.holds Tryd.pinned (OpenSpec.ofChange decimalSignsSpec)

/-- ITS FALSE NEIGHBOUR: 'it returns false'. Refute it at one input. -/
def decimalSignsWrong : ChangeSpec := { name := "decimalSigns", fn := fun _ => fun
  | [d1, d2] => { results := [.lit (.bool false)], args := [d1, d2] }
  | _ => none }
def DecimalSignsWrongFalsely : Prop := decimalSignsRow.holds Tryd.pinned (OpenSpec.ofChange decimalSignsWrong)

/-- 'longstoplaw02.DecimalSums': WHATEVER THE INPUT: true; the input reads as it did. -/
def decimalSumsSpec : ChangeSpec := { name := "decimalSums", fn := fun _ => fun
  | [d1, d2] => { results := [.lit (.bool true)], args := [d1, d2] }
  | _ => none }
def decimalSumsRow : OpenClaim := { program := "ytcneenlcbjicnaadoor", sum := "669cb94b0e814b374a2a528eba4ad2fab9f0407abf9bb5b99b3428aac39e09cf", func := "longstop/longstoplaw02.DecimalSums", spec := "decimalSums", inPlace := ["math/bits.Add64", "math/bits.Sub64", "internal/abi.NoEscape", "internal/bytealg.MakeNoZero"], named := ["longstop/decimal.powers", "internal/strconv.uint64pow10", "math/bits.deBruijn32tab", "math/bits.deBruijn64tab"], apart := false, laid := [("math/bits.deBruijn32tab", laid_math_bits_deBruijn32tab), ("math/bits.deBruijn64tab", laid_math_bits_deBruijn64tab), ("internal/strconv.uint64pow10", laid_internal_strconv_uint64pow10), ("longstop/decimal.powers", laid_longstop_decimal_powers)] }
def DecimalSumsSaid : Prop := decimalSumsRow.holds Tryd.pinned (OpenSpec.ofChange decimalSumsSpec)

/-- ITS FALSE NEIGHBOUR: 'it returns false'. Refute it at one input. -/
def decimalSumsWrong : ChangeSpec := { name := "decimalSums", fn := fun _ => fun
  | [d1, d2] => { results := [.lit (.bool false)], args := [d1, d2] }
  | _ => none }
def DecimalSumsWrongFalsely : Prop := decimalSumsRow.holds Tryd.pinned (OpenSpec.ofChange decimalSumsWrong)

/-- 'longstoplaw02.DecimalInts': WHATEVER THE INPUT: true; the input reads as it did. -/
def decimalIntsSpec : ChangeSpec := { name := "decimalInts", fn := fun _ => fun
  | [d1, d2] => { results := [.lit (.bool true)], args := [d1, d2] }
  | _ => none }
def decimalIntsRow : OpenClaim := { program := "ytcneenlcbjicnaadoor", sum := "669cb94b0e814b374a2a528eba4ad2fab9f0407abf9bb5b99b3428aac39e09cf", func := "longstop/longstoplaw02.DecimalInts", spec := "decimalInts", inPlace := ["math/bits.Add64", "math/bits.Sub64", "internal/abi.NoEscape", "internal/bytealg.MakeNoZero"], named := ["longstop/decimal.powers", "internal/strconv.uint64pow10", "math/bits.deBruijn32tab", "math/bits.deBruijn64tab"], apart := false, laid := [("math/bits.deBruijn32tab", laid_math_bits_deBruijn32tab), ("math/bits.deBruijn64tab", laid_math_bits_deBruijn64tab), ("internal/strconv.uint64pow10", laid_internal_strconv_uint64pow10), ("longstop/decimal.powers", laid_longstop_decimal_powers)] }
def DecimalIntsSaid : Prop := decimalIntsRow.holds Tryd.pinned (OpenSpec.ofChange decimalIntsSpec)

/-- ITS FALSE NEIGHBOUR: 'it returns false'. Refute it at one input. -/
def decimalIntsWrong : ChangeSpec := { name := "decimalInts", fn := fun _ => fun
  | [d1, d2] => { results := [.lit (.bool false)], args := [d1, d2] }
  | _ => none }
def DecimalIntsWrongFalsely : Prop := decimalIntsRow.holds Tryd.pinned (OpenSpec.ofChange decimalIntsWrong)

/-- 'longstoplaw02.DecimalLaws': WHATEVER THE INPUT: true; the input reads as it did. -/
def decimalLawsSpec : ChangeSpec := { name := "decimalLaws", fn := fun _ => fun
  | [d1, d2] => { results := [.lit (.bool true)], args := [d1, d2] }
  | _ => none }
def decimalLawsRow : OpenClaim := { program := "ytcneenlcbjicnaadoor", sum := "669cb94b0e814b374a2a528eba4ad2fab9f0407abf9bb5b99b3428aac39e09cf", func := "longstop/longstoplaw02.DecimalLaws", spec := "decimalLaws", inPlace := ["math/bits.Add64", "math/bits.Sub64", "internal/abi.NoEscape", "internal/bytealg.MakeNoZero"], named := ["longstop/decimal.powers", "internal/strconv.uint64pow10", "math/bits.deBruijn32tab", "math/bits.deBruijn64tab"], apart := false, laid := [("math/bits.deBruijn32tab", laid_math_bits_deBruijn32tab), ("math/bits.deBruijn64tab", laid_math_bits_deBruijn64tab), ("internal/strconv.uint64pow10", laid_internal_strconv_uint64pow10), ("longstop/decimal.powers", laid_longstop_decimal_powers)] }
def DecimalLawsSaid : Prop := decimalLawsRow.holds Tryd.pinned (OpenSpec.ofChange decimalLawsSpec)

/-- ITS FALSE NEIGHBOUR: 'it returns false'. Refute it at one input. -/
def decimalLawsWrong : ChangeSpec := { name := "decimalLaws", fn := fun _ => fun
  | [d1, d2] => { results := [.lit (.bool false)], args := [d1, d2] }
  | _ => none }
def DecimalLawsWrongFalsely : Prop := decimalLawsRow.holds Tryd.pinned (OpenSpec.ofChange decimalLawsWrong)

/-- 'longstoplaw02.DecimalTexts': WHATEVER THE INPUT: true; the input reads as it did. -/
def decimalTextsSpec : ChangeSpec := { name := "decimalTexts", fn := fun _ => fun
  | [d1, d2] => { results := [.lit (.bool true)], args := [d1, d2] }
  | _ => none }
def decimalTextsRow : OpenClaim := { program := "ytcneenlcbjicnaadoor", sum := "669cb94b0e814b374a2a528eba4ad2fab9f0407abf9bb5b99b3428aac39e09cf", func := "longstop/longstoplaw02.DecimalTexts", spec := "decimalTexts", inPlace := ["internal/bytealg.IndexByteString", "internal/bytealg.IndexString", "math/bits.Add64", "math/bits.Sub64", "internal/abi.NoEscape", "internal/bytealg.MakeNoZero"], named := ["internal/bytealg.MaxLen", "internal/strconv.uint64pow10", "math/bits.deBruijn32tab", "math/bits.deBruijn64tab", "longstop/decimal.powers"], apart := false, laid := [("math/bits.deBruijn32tab", laid_math_bits_deBruijn32tab), ("math/bits.deBruijn64tab", laid_math_bits_deBruijn64tab), ("internal/strconv.uint64pow10", laid_internal_strconv_uint64pow10), ("longstop/decimal.powers", laid_longstop_decimal_powers)] }
def DecimalTextsSaid : Prop := decimalTextsRow.holds Tryd.pinned (OpenSpec.ofChange decimalTextsSpec)

/-- ITS FALSE NEIGHBOUR: 'it returns false'. Refute it at one input. -/
def decimalTextsWrong : ChangeSpec := { name := "decimalTexts", fn := fun _ => fun
  | [d1, d2] => { results := [.lit (.bool false)], args := [d1, d2] }
  | _ => none }
def DecimalTextsWrongFalsely : Prop := decimalTextsRow.holds Tryd.pinned (OpenSpec.ofChange decimalTextsWrong)

/-- 'longstoplaw02.DecimalBack': WHATEVER THE INPUT: true; the input reads as it did. -/
def decimalBackSpec : ChangeSpec := { name := "decimalBack", fn := fun _ => fun
  | [d1, d2] => { results := [.lit (.bool true)], args := [d1, d2] }
  | _ => none }
def decimalBackRow : OpenClaim := { program := "ytcneenlcbjicnaadoor", sum := "669cb94b0e814b374a2a528eba4ad2fab9f0407abf9bb5b99b3428aac39e09cf", func := "longstop/longstoplaw02.DecimalBack", spec := "decimalBack", inPlace := ["internal/abi.NoEscape", "internal/bytealg.MakeNoZero", "internal/bytealg.IndexByteString", "internal/bytealg.IndexString", "math/bits.Add64", "math/bits.Sub64"], named := ["internal/strconv.uint64pow10", "math/bits.deBruijn32tab", "math/bits.deBruijn64tab", "internal/bytealg.MaxLen", "longstop/decimal.powers"], apart := false, laid := [("math/bits.deBruijn32tab", laid_math_bits_deBruijn32tab), ("math/bits.deBruijn64tab", laid_math_bits_deBruijn64tab), ("internal/strconv.uint64pow10", laid_internal_strconv_uint64pow10), ("longstop/decimal.powers", laid_longstop_decimal_powers)] }
def DecimalBackSaid : Prop := decimalBackRow.holds Tryd.pinned (OpenSpec.ofChange decimalBackSpec)

/-- ITS FALSE NEIGHBOUR: 'it returns false'. Refute it at one input. -/
def decimalBackWrong : ChangeSpec := { name := "decimalBack", fn := fun _ => fun
  | [d1, d2] => { results := [.lit (.bool false)], args := [d1, d2] }
  | _ => none }
def DecimalBackWrongFalsely : Prop := decimalBackRow.holds Tryd.pinned (OpenSpec.ofChange decimalBackWrong)

/- THE SECOND FORM. 'bulk': how many values and letters a reading holds, each counted each time it is reached (what is shared counts as often as it is met; a slice's spare places count too). A statement '..UptoSaid' is the law's where the arguments, and the package variables that the reading takes, are together of bulk at most 1048576: NARROWER than '..Said'. Prove '..Said' where nothing that the law and all that it calls make is longer than what came in: it says more and counts as full. Else prove '..UptoSaid'. A law counts once. -/
mutual
def uptoBulk {H : Type} : DataW H → Nat
  | .lit (.string bytes) => bytes.length + 1
  | .lit _ => 1
  | .nil => 1
  | .ptr d => uptoBulk d + 1
  | .slice elems spare => uptoBulkAll elems + uptoBulkAll spare + 1
  | .agg parts => uptoBulkAll parts + 1
  | .iface _ d => uptoBulk d + 1
  | .map entries => uptoBulkEntries entries + 1
  | .held _ => 1
def uptoBulkAll {H : Type} : List (DataW H) → Nat
  | [] => 0
  | d :: r => uptoBulk d + uptoBulkAll r
def uptoBulkEntries {H : Type} : List (Lit × DataW H) → Nat
  | [] => 0
  | x :: r => uptoBulkEntry x + uptoBulkEntries r
def uptoBulkEntry {H : Type} : Lit × DataW H → Nat
  | (.string bytes, d) => bytes.length + uptoBulk d + 1
  | (_, d) => uptoBulk d + 1
 end
def uptoSmall : (H : Type) → List (DataW H) → Bool := fun _ ds => decide (uptoBulkAll ds ≤ 1048576)
def OpenSpec.upto (s : _root_.Go.ChangeSpec) : _root_.Go.OpenSpec := { _root_.Go.OpenSpec.ofChange s with cond := some uptoSmall }

/-- 'longstoplaw02.DecimalNear', WHERE WHAT IT READS IS OF BULK AT MOST 1048576: true; the input reads as it did. -/
def decimalNearUptoRow : OpenClaim := { program := "ytcneenlcbjicnaadoor", sum := "669cb94b0e814b374a2a528eba4ad2fab9f0407abf9bb5b99b3428aac39e09cf", func := "longstop/longstoplaw02.DecimalNear", spec := "decimalNear", inPlace := ["math/bits.Sub64", "math/bits.Add64", "internal/abi.NoEscape", "internal/bytealg.MakeNoZero"], named := ["longstop/decimal.powers", "internal/strconv.uint64pow10", "math/bits.deBruijn32tab", "math/bits.deBruijn64tab"], apart := false, laid := [("math/bits.deBruijn32tab", laid_math_bits_deBruijn32tab), ("math/bits.deBruijn64tab", laid_math_bits_deBruijn64tab), ("internal/strconv.uint64pow10", laid_internal_strconv_uint64pow10), ("longstop/decimal.powers", laid_longstop_decimal_powers)], narrowed := true }
def DecimalNearUptoSaid : Prop := decimalNearUptoRow.holds Tryd.pinned (OpenSpec.upto decimalNearSpec)

/-- 'longstoplaw02.DecimalTimes', WHERE WHAT IT READS IS OF BULK AT MOST 1048576: true; the input reads as it did. -/
def decimalTimesUptoRow : OpenClaim := { program := "ytcneenlcbjicnaadoor", sum := "669cb94b0e814b374a2a528eba4ad2fab9f0407abf9bb5b99b3428aac39e09cf", func := "longstop/longstoplaw02.DecimalTimes", spec := "decimalTimes", inPlace := ["math/bits.Sub64", "math/bits.Add64", "internal/abi.NoEscape", "internal/bytealg.MakeNoZero"], named := ["longstop/decimal.powers", "internal/strconv.uint64pow10", "math/bits.deBruijn32tab", "math/bits.deBruijn64tab"], apart := false, laid := [("math/bits.deBruijn32tab", laid_math_bits_deBruijn32tab), ("math/bits.deBruijn64tab", laid_math_bits_deBruijn64tab), ("internal/strconv.uint64pow10", laid_internal_strconv_uint64pow10), ("longstop/decimal.powers", laid_longstop_decimal_powers)], narrowed := true }
def DecimalTimesUptoSaid : Prop := decimalTimesUptoRow.holds Tryd.pinned (OpenSpec.upto decimalTimesSpec)

/-- 'longstoplaw02.DecimalOrder', WHERE WHAT IT READS IS OF BULK AT MOST 1048576: true; the input reads as it did. -/
def decimalOrderUptoRow : OpenClaim := { program := "ytcneenlcbjicnaadoor", sum := "669cb94b0e814b374a2a528eba4ad2fab9f0407abf9bb5b99b3428aac39e09cf", func := "longstop/longstoplaw02.DecimalOrder", spec := "decimalOrder", inPlace := ["math/bits.Sub64", "math/bits.Add64", "internal/abi.NoEscape", "internal/bytealg.MakeNoZero"], named := ["longstop/decimal.powers", "internal/strconv.uint64pow10", "math/bits.deBruijn32tab", "math/bits.deBruijn64tab"], apart := false, laid := [("math/bits.deBruijn32tab", laid_math_bits_deBruijn32tab), ("math/bits.deBruijn64tab", laid_math_bits_deBruijn64tab), ("internal/strconv.uint64pow10", laid_internal_strconv_uint64pow10), ("longstop/decimal.powers", laid_longstop_decimal_powers)], narrowed := true }
def DecimalOrderUptoSaid : Prop := decimalOrderUptoRow.holds Tryd.pinned (OpenSpec.upto decimalOrderSpec)

/-- 'longstoplaw02.DecimalSigns', WHERE WHAT IT READS IS OF BULK AT MOST 1048576: true; the input reads as it did. -/
def decimalSignsUptoRow : OpenClaim := { program := "ytcneenlcbjicnaadoor", sum := "669cb94b0e814b374a2a528eba4ad2fab9f0407abf9bb5b99b3428aac39e09cf", func := "longstop/longstoplaw02.DecimalSigns", spec := "decimalSigns", inPlace := ["math/bits.Add64", "math/bits.Sub64", "internal/abi.NoEscape", "internal/bytealg.MakeNoZero"], named := ["longstop/decimal.powers", "internal/strconv.uint64pow10", "math/bits.deBruijn32tab", "math/bits.deBruijn64tab"], apart := false, laid := [("math/bits.deBruijn32tab", laid_math_bits_deBruijn32tab), ("math/bits.deBruijn64tab", laid_math_bits_deBruijn64tab), ("internal/strconv.uint64pow10", laid_internal_strconv_uint64pow10), ("longstop/decimal.powers", laid_longstop_decimal_powers)], narrowed := true }
def DecimalSignsUptoSaid : Prop := decimalSignsUptoRow.holds Tryd.pinned (OpenSpec.upto decimalSignsSpec)

/-- 'longstoplaw02.DecimalSums', WHERE WHAT IT READS IS OF BULK AT MOST 1048576: true; the input reads as it did. -/
def decimalSumsUptoRow : OpenClaim := { program := "ytcneenlcbjicnaadoor", sum := "669cb94b0e814b374a2a528eba4ad2fab9f0407abf9bb5b99b3428aac39e09cf", func := "longstop/longstoplaw02.DecimalSums", spec := "decimalSums", inPlace := ["math/bits.Add64", "math/bits.Sub64", "internal/abi.NoEscape", "internal/bytealg.MakeNoZero"], named := ["longstop/decimal.powers", "internal/strconv.uint64pow10", "math/bits.deBruijn32tab", "math/bits.deBruijn64tab"], apart := false, laid := [("math/bits.deBruijn32tab", laid_math_bits_deBruijn32tab), ("math/bits.deBruijn64tab", laid_math_bits_deBruijn64tab), ("internal/strconv.uint64pow10", laid_internal_strconv_uint64pow10), ("longstop/decimal.powers", laid_longstop_decimal_powers)], narrowed := true }
def DecimalSumsUptoSaid : Prop := decimalSumsUptoRow.holds Tryd.pinned (OpenSpec.upto decimalSumsSpec)

/-- 'longstoplaw02.DecimalInts', WHERE WHAT IT READS IS OF BULK AT MOST 1048576: true; the input reads as it did. -/
def decimalIntsUptoRow : OpenClaim := { program := "ytcneenlcbjicnaadoor", sum := "669cb94b0e814b374a2a528eba4ad2fab9f0407abf9bb5b99b3428aac39e09cf", func := "longstop/longstoplaw02.DecimalInts", spec := "decimalInts", inPlace := ["math/bits.Add64", "math/bits.Sub64", "internal/abi.NoEscape", "internal/bytealg.MakeNoZero"], named := ["longstop/decimal.powers", "internal/strconv.uint64pow10", "math/bits.deBruijn32tab", "math/bits.deBruijn64tab"], apart := false, laid := [("math/bits.deBruijn32tab", laid_math_bits_deBruijn32tab), ("math/bits.deBruijn64tab", laid_math_bits_deBruijn64tab), ("internal/strconv.uint64pow10", laid_internal_strconv_uint64pow10), ("longstop/decimal.powers", laid_longstop_decimal_powers)], narrowed := true }
def DecimalIntsUptoSaid : Prop := decimalIntsUptoRow.holds Tryd.pinned (OpenSpec.upto decimalIntsSpec)

/-- 'longstoplaw02.DecimalLaws', WHERE WHAT IT READS IS OF BULK AT MOST 1048576: true; the input reads as it did. -/
def decimalLawsUptoRow : OpenClaim := { program := "ytcneenlcbjicnaadoor", sum := "669cb94b0e814b374a2a528eba4ad2fab9f0407abf9bb5b99b3428aac39e09cf", func := "longstop/longstoplaw02.DecimalLaws", spec := "decimalLaws", inPlace := ["math/bits.Add64", "math/bits.Sub64", "internal/abi.NoEscape", "internal/bytealg.MakeNoZero"], named := ["longstop/decimal.powers", "internal/strconv.uint64pow10", "math/bits.deBruijn32tab", "math/bits.deBruijn64tab"], apart := false, laid := [("math/bits.deBruijn32tab", laid_math_bits_deBruijn32tab), ("math/bits.deBruijn64tab", laid_math_bits_deBruijn64tab), ("internal/strconv.uint64pow10", laid_internal_strconv_uint64pow10), ("longstop/decimal.powers", laid_longstop_decimal_powers)], narrowed := true }
def DecimalLawsUptoSaid : Prop := decimalLawsUptoRow.holds Tryd.pinned (OpenSpec.upto decimalLawsSpec)

/-- 'longstoplaw02.DecimalTexts', WHERE WHAT IT READS IS OF BULK AT MOST 1048576: true; the input reads as it did. -/
def decimalTextsUptoRow : OpenClaim := { program := "ytcneenlcbjicnaadoor", sum := "669cb94b0e814b374a2a528eba4ad2fab9f0407abf9bb5b99b3428aac39e09cf", func := "longstop/longstoplaw02.DecimalTexts", spec := "decimalTexts", inPlace := ["internal/bytealg.IndexByteString", "internal/bytealg.IndexString", "math/bits.Add64", "math/bits.Sub64", "internal/abi.NoEscape", "internal/bytealg.MakeNoZero"], named := ["internal/bytealg.MaxLen", "internal/strconv.uint64pow10", "math/bits.deBruijn32tab", "math/bits.deBruijn64tab", "longstop/decimal.powers"], apart := false, laid := [("math/bits.deBruijn32tab", laid_math_bits_deBruijn32tab), ("math/bits.deBruijn64tab", laid_math_bits_deBruijn64tab), ("internal/strconv.uint64pow10", laid_internal_strconv_uint64pow10), ("longstop/decimal.powers", laid_longstop_decimal_powers)], narrowed := true }
def DecimalTextsUptoSaid : Prop := decimalTextsUptoRow.holds Tryd.pinned (OpenSpec.upto decimalTextsSpec)

/-- 'longstoplaw02.DecimalBack', WHERE WHAT IT READS IS OF BULK AT MOST 1048576: true; the input reads as it did. -/
def decimalBackUptoRow : OpenClaim := { program := "ytcneenlcbjicnaadoor", sum := "669cb94b0e814b374a2a528eba4ad2fab9f0407abf9bb5b99b3428aac39e09cf", func := "longstop/longstoplaw02.DecimalBack", spec := "decimalBack", inPlace := ["internal/abi.NoEscape", "internal/bytealg.MakeNoZero", "internal/bytealg.IndexByteString", "internal/bytealg.IndexString", "math/bits.Add64", "math/bits.Sub64"], named := ["internal/strconv.uint64pow10", "math/bits.deBruijn32tab", "math/bits.deBruijn64tab", "internal/bytealg.MaxLen", "longstop/decimal.powers"], apart := false, laid := [("math/bits.deBruijn32tab", laid_math_bits_deBruijn32tab), ("math/bits.deBruijn64tab", laid_math_bits_deBruijn64tab), ("internal/strconv.uint64pow10", laid_internal_strconv_uint64pow10), ("longstop/decimal.powers", laid_longstop_decimal_powers)], narrowed := true }
def DecimalBackUptoSaid : Prop := decimalBackUptoRow.holds Tryd.pinned (OpenSpec.upto decimalBackSpec)

end Rows
end Go.Proofs.YtcneenlcbjicnaaDoor
