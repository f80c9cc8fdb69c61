/-
  No cell of these rows narrows 'for every input' (looked for: loops, veiled, ifaces, maps, wideKeys, modest, calm, conditions, laid).
  DERIVED. THE GIVEN ROWS OF THIS SEAT. 6 by the template 'for every input the law returns true; each argument reads behind the call as it read before'; 0 by the template 'total and deterministic' (their statements: YtjndejlbkmeppaaTotals.lean).
  GIVEN WITH THE SEED: the statements are not yours to turn. If you find one false, say at which input.
  Laid BY PROGRAM, IN A SANDBOX (cutbox-rows.mjs): the forced cells as the released guide's own fill.sh prints them over the translation 9adce6a48e48f1f8… (all of the seat's roots in one cut). By AI agents, Wed Nov 11 2026. No macro, syntax, notation, axiom, sorry.
-/
import Derived.Test.YtjndejlbkmeppaaChecked
import GoSem.Claim
import GoSem.ClaimJoined
import GoSem.ClaimMapViews
import Derived.JoinedTies
import Derived.KernelRfl
namespace Go.Proofs.Ytjndejlbkmeppaa
/- THE CELL 'sum', in the pinned program and in every row, IS THE sha256 OF THE DUMP (.gsa) THAT YtjndejlbkmeppaaProg.lean LOADS. Nothing in Lean hashes anything: it is a label: what it is worth is what the hold of that sum in a sandbox is worth. -/
noncomputable def Try.pinned : Pinned := { name := "ytjndejlbkmeppaa", sum := "9adce6a48e48f1f87a6b93c0ddbf4ba39233d8ed7e65a3e3f65702cc60ff6768", checked := Try.checked }
namespace Rows
def none {H : Type} : Left H := { results := [], args := [] }

/-- 'longstoplaw03.GaussParted': WHATEVER THE INPUT: true; the input reads as it did. -/
def gaussPartedSpec : ChangeSpec := { name := "gaussParted", fn := fun _ => fun
  | [d1, d2, d3] => { results := [.lit (.bool true)], args := [d1, d2, d3] }
  | _ => none }
def gaussPartedRow : OpenClaim := { program := "ytjndejlbkmeppaa", sum := "9adce6a48e48f1f87a6b93c0ddbf4ba39233d8ed7e65a3e3f65702cc60ff6768", func := "longstop/longstoplaw03.GaussParted", spec := "gaussParted", unfollowed := true, recurses := true, apart := false }
def GaussPartedSaid : Prop := gaussPartedRow.holds Try.pinned (OpenSpec.ofChange gaussPartedSpec)

/-- ITS FALSE NEIGHBOUR: 'it returns false'. Refute it at one input. -/
def gaussPartedWrong : ChangeSpec := { name := "gaussParted", fn := fun _ => fun
  | [d1, d2, d3] => { results := [.lit (.bool false)], args := [d1, d2, d3] }
  | _ => none }
def GaussPartedWrongFalsely : Prop := gaussPartedRow.holds Try.pinned (OpenSpec.ofChange gaussPartedWrong)

/-- 'longstoplaw03.GaussSums': WHATEVER THE INPUT: true; the input reads as it did. -/
def gaussSumsSpec : ChangeSpec := { name := "gaussSums", fn := fun _ => fun
  | [d1, d2] => { results := [.lit (.bool true)], args := [d1, d2] }
  | _ => none }
def gaussSumsRow : OpenClaim := { program := "ytjndejlbkmeppaa", sum := "9adce6a48e48f1f87a6b93c0ddbf4ba39233d8ed7e65a3e3f65702cc60ff6768", func := "longstop/longstoplaw03.GaussSums", spec := "gaussSums", unfollowed := true, recurses := true, apart := false }
def GaussSumsSaid : Prop := gaussSumsRow.holds Try.pinned (OpenSpec.ofChange gaussSumsSpec)

/-- ITS FALSE NEIGHBOUR: 'it returns false'. Refute it at one input. -/
def gaussSumsWrong : ChangeSpec := { name := "gaussSums", fn := fun _ => fun
  | [d1, d2] => { results := [.lit (.bool false)], args := [d1, d2] }
  | _ => none }
def GaussSumsWrongFalsely : Prop := gaussSumsRow.holds Try.pinned (OpenSpec.ofChange gaussSumsWrong)

/-- 'longstoplaw03.GaussTurns': WHATEVER THE INPUT: true; the input reads as it did. -/
def gaussTurnsSpec : ChangeSpec := { name := "gaussTurns", fn := fun _ => fun
  | [d1, d2, d3] => { results := [.lit (.bool true)], args := [d1, d2, d3] }
  | _ => none }
def gaussTurnsRow : OpenClaim := { program := "ytjndejlbkmeppaa", sum := "9adce6a48e48f1f87a6b93c0ddbf4ba39233d8ed7e65a3e3f65702cc60ff6768", func := "longstop/longstoplaw03.GaussTurns", spec := "gaussTurns", unfollowed := true, recurses := true, apart := false }
def GaussTurnsSaid : Prop := gaussTurnsRow.holds Try.pinned (OpenSpec.ofChange gaussTurnsSpec)

/-- ITS FALSE NEIGHBOUR: 'it returns false'. Refute it at one input. -/
def gaussTurnsWrong : ChangeSpec := { name := "gaussTurns", fn := fun _ => fun
  | [d1, d2, d3] => { results := [.lit (.bool false)], args := [d1, d2, d3] }
  | _ => none }
def GaussTurnsWrongFalsely : Prop := gaussTurnsRow.holds Try.pinned (OpenSpec.ofChange gaussTurnsWrong)

/-- 'longstoplaw03.GaussLaws': WHATEVER THE INPUT: true; the input reads as it did. -/
def gaussLawsSpec : ChangeSpec := { name := "gaussLaws", fn := fun _ => fun
  | [d1, d2] => { results := [.lit (.bool true)], args := [d1, d2] }
  | _ => none }
def gaussLawsRow : OpenClaim := { program := "ytjndejlbkmeppaa", sum := "9adce6a48e48f1f87a6b93c0ddbf4ba39233d8ed7e65a3e3f65702cc60ff6768", func := "longstop/longstoplaw03.GaussLaws", spec := "gaussLaws", inPlace := ["math.archFloor", "math.Float64bits", "math.Float64frombits", "math.archTrunc"], unfollowed := true, recurses := true, apart := false }
def GaussLawsSaid : Prop := gaussLawsRow.holds Try.pinned (OpenSpec.ofChange gaussLawsSpec)

/-- ITS FALSE NEIGHBOUR: 'it returns false'. Refute it at one input. -/
def gaussLawsWrong : ChangeSpec := { name := "gaussLaws", fn := fun _ => fun
  | [d1, d2] => { results := [.lit (.bool false)], args := [d1, d2] }
  | _ => none }
def GaussLawsWrongFalsely : Prop := gaussLawsRow.holds Try.pinned (OpenSpec.ofChange gaussLawsWrong)

/-- 'longstoplaw03.GaussGcd': WHATEVER THE INPUT: true; the input reads as it did. -/
def gaussGcdSpec : ChangeSpec := { name := "gaussGcd", fn := fun _ => fun
  | [d1, d2] => { results := [.lit (.bool true)], args := [d1, d2] }
  | _ => none }
def gaussGcdRow : OpenClaim := { program := "ytjndejlbkmeppaa", sum := "9adce6a48e48f1f87a6b93c0ddbf4ba39233d8ed7e65a3e3f65702cc60ff6768", func := "longstop/longstoplaw03.GaussGcd", spec := "gaussGcd", inPlace := ["math.archFloor", "math.Float64bits", "math.Float64frombits", "math.archTrunc"], unfollowed := true, recurses := true, apart := false }
def GaussGcdSaid : Prop := gaussGcdRow.holds Try.pinned (OpenSpec.ofChange gaussGcdSpec)

/-- ITS FALSE NEIGHBOUR: 'it returns false'. Refute it at one input. -/
def gaussGcdWrong : ChangeSpec := { name := "gaussGcd", fn := fun _ => fun
  | [d1, d2] => { results := [.lit (.bool false)], args := [d1, d2] }
  | _ => none }
def GaussGcdWrongFalsely : Prop := gaussGcdRow.holds Try.pinned (OpenSpec.ofChange gaussGcdWrong)

/-- 'longstoplaw03.GaussParts': WHATEVER THE INPUT: true; the input reads as it did. -/
def gaussPartsSpec : ChangeSpec := { name := "gaussParts", fn := fun _ => fun
  | [d1, d2, d3] => { results := [.lit (.bool true)], args := [d1, d2, d3] }
  | _ => none }
def gaussPartsRow : OpenClaim := { program := "ytjndejlbkmeppaa", sum := "9adce6a48e48f1f87a6b93c0ddbf4ba39233d8ed7e65a3e3f65702cc60ff6768", func := "longstop/longstoplaw03.GaussParts", spec := "gaussParts", inPlace := ["math.archFloor", "math.Float64bits", "math.Float64frombits", "math.archTrunc"], unfollowed := true, recurses := true, apart := false }
def GaussPartsSaid : Prop := gaussPartsRow.holds Try.pinned (OpenSpec.ofChange gaussPartsSpec)

/-- ITS FALSE NEIGHBOUR: 'it returns false'. Refute it at one input. -/
def gaussPartsWrong : ChangeSpec := { name := "gaussParts", fn := fun _ => fun
  | [d1, d2, d3] => { results := [.lit (.bool false)], args := [d1, d2, d3] }
  | _ => none }
def GaussPartsWrongFalsely : Prop := gaussPartsRow.holds Try.pinned (OpenSpec.ofChange gaussPartsWrong)

/- THE SECOND FORM. 'bulk': how many values and letters a reading holds, each counted each time it is reached (what is shared counts as often as it is met; a slice's spare places count too). A statement '..UptoSaid' is the law's where the arguments, and the package variables that the reading takes, are together of bulk at most 1048576: NARROWER than '..Said'. Prove '..Said' where nothing that the law and all that it calls make is longer than what came in: it says more and counts as full. Else prove '..UptoSaid'. A law counts once. -/
mutual
def uptoBulk {H : Type} : DataW H → Nat
  | .lit (.string bytes) => bytes.length + 1
  | .lit _ => 1
  | .nil => 1
  | .ptr d => uptoBulk d + 1
  | .slice elems spare => uptoBulkAll elems + uptoBulkAll spare + 1
  | .agg parts => uptoBulkAll parts + 1
  | .iface _ d => uptoBulk d + 1
  | .map entries => uptoBulkEntries entries + 1
  | .held _ => 1
def uptoBulkAll {H : Type} : List (DataW H) → Nat
  | [] => 0
  | d :: r => uptoBulk d + uptoBulkAll r
def uptoBulkEntries {H : Type} : List (Lit × DataW H) → Nat
  | [] => 0
  | x :: r => uptoBulkEntry x + uptoBulkEntries r
def uptoBulkEntry {H : Type} : Lit × DataW H → Nat
  | (.string bytes, d) => bytes.length + uptoBulk d + 1
  | (_, d) => uptoBulk d + 1
 end
def uptoSmall : (H : Type) → List (DataW H) → Bool := fun _ ds => decide (uptoBulkAll ds ≤ 1048576)
def OpenSpec.upto (s : _root_.Go.ChangeSpec) : _root_.Go.OpenSpec := { _root_.Go.OpenSpec.ofChange s with cond := some uptoSmall }

/-- 'longstoplaw03.GaussParted', WHERE WHAT IT READS IS OF BULK AT MOST 1048576: true; the input reads as it did. -/
def gaussPartedUptoRow : OpenClaim := { program := "ytjndejlbkmeppaa", sum := "9adce6a48e48f1f87a6b93c0ddbf4ba39233d8ed7e65a3e3f65702cc60ff6768", func := "longstop/longstoplaw03.GaussParted", spec := "gaussParted", unfollowed := true, recurses := true, apart := false, narrowed := true }
def GaussPartedUptoSaid : Prop := gaussPartedUptoRow.holds Try.pinned (OpenSpec.upto gaussPartedSpec)

/-- 'longstoplaw03.GaussSums', WHERE WHAT IT READS IS OF BULK AT MOST 1048576: true; the input reads as it did. -/
def gaussSumsUptoRow : OpenClaim := { program := "ytjndejlbkmeppaa", sum := "9adce6a48e48f1f87a6b93c0ddbf4ba39233d8ed7e65a3e3f65702cc60ff6768", func := "longstop/longstoplaw03.GaussSums", spec := "gaussSums", unfollowed := true, recurses := true, apart := false, narrowed := true }
def GaussSumsUptoSaid : Prop := gaussSumsUptoRow.holds Try.pinned (OpenSpec.upto gaussSumsSpec)

/-- 'longstoplaw03.GaussTurns', WHERE WHAT IT READS IS OF BULK AT MOST 1048576: true; the input reads as it did. -/
def gaussTurnsUptoRow : OpenClaim := { program := "ytjndejlbkmeppaa", sum := "9adce6a48e48f1f87a6b93c0ddbf4ba39233d8ed7e65a3e3f65702cc60ff6768", func := "longstop/longstoplaw03.GaussTurns", spec := "gaussTurns", unfollowed := true, recurses := true, apart := false, narrowed := true }
def GaussTurnsUptoSaid : Prop := gaussTurnsUptoRow.holds Try.pinned (OpenSpec.upto gaussTurnsSpec)

/-- 'longstoplaw03.GaussLaws', WHERE WHAT IT READS IS OF BULK AT MOST 1048576: true; the input reads as it did. -/
def gaussLawsUptoRow : OpenClaim := { program := "ytjndejlbkmeppaa", sum := "9adce6a48e48f1f87a6b93c0ddbf4ba39233d8ed7e65a3e3f65702cc60ff6768", func := "longstop/longstoplaw03.GaussLaws", spec := "gaussLaws", inPlace := ["math.archFloor", "math.Float64bits", "math.Float64frombits", "math.archTrunc"], unfollowed := true, recurses := true, apart := false, narrowed := true }
def GaussLawsUptoSaid : Prop := gaussLawsUptoRow.holds Try.pinned (OpenSpec.upto gaussLawsSpec)

/-- 'longstoplaw03.GaussGcd', WHERE WHAT IT READS IS OF BULK AT MOST 1048576: true; the input reads as it did. -/
def gaussGcdUptoRow : OpenClaim := { program := "ytjndejlbkmeppaa", sum := "9adce6a48e48f1f87a6b93c0ddbf4ba39233d8ed7e65a3e3f65702cc60ff6768", func := "longstop/longstoplaw03.GaussGcd", spec := "gaussGcd", inPlace := ["math.archFloor", "math.Float64bits", "math.Float64frombits", "math.archTrunc"], unfollowed := true, recurses := true, apart := false, narrowed := true }
def GaussGcdUptoSaid : Prop := gaussGcdUptoRow.holds Try.pinned (OpenSpec.upto gaussGcdSpec)

/-- 'longstoplaw03.GaussParts', WHERE WHAT IT READS IS OF BULK AT MOST 1048576: true; the input reads as it did. -/
def gaussPartsUptoRow : OpenClaim := { program := "ytjndejlbkmeppaa", sum := "9adce6a48e48f1f87a6b93c0ddbf4ba39233d8ed7e65a3e3f65702cc60ff6768", func := "longstop/longstoplaw03.GaussParts", spec := "gaussParts", inPlace := ["math.archFloor", "math.Float64bits", "math.Float64frombits", "math.archTrunc"], unfollowed := true, recurses := true, apart := false, narrowed := true }
def GaussPartsUptoSaid : Prop := gaussPartsUptoRow.holds Try.pinned (OpenSpec.upto gaussPartsSpec)

end Rows
end Go.Proofs.Ytjndejlbkmeppaa
