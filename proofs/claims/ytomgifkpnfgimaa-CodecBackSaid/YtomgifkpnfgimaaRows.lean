/-
  No cell of these rows narrows 'for every input' (looked for: loops, veiled, ifaces, maps, wideKeys, modest, calm, conditions, laid).
  DERIVED. THE GIVEN ROWS OF THIS SEAT. 7 by the template 'for every input the law returns true; each argument reads behind the call as it read before'; 0 by the template 'total and deterministic' (their statements: YtomgifkpnfgimaaTotals.lean).
  GIVEN WITH THE SEED: the statements are not yours to turn. If you find one false, say at which input.
  Laid BY PROGRAM, IN A SANDBOX (cutbox-rows.mjs): the forced cells as the released guide's own fill.sh prints them over the translation 24b9992048a6a2ed… (all of the seat's roots in one cut). By AI agents, Wed Nov 11 2026. No macro, syntax, notation, axiom, sorry.
-/
import Derived.Test.YtomgifkpnfgimaaChecked
import GoSem.Claim
import GoSem.ClaimJoined
import GoSem.ClaimMapViews
import Derived.JoinedTies
import Derived.KernelRfl
namespace Go.Proofs.Ytomgifkpnfgimaa
/- THE CELL 'sum', in the pinned program and in every row, IS THE sha256 OF THE DUMP (.gsa) THAT YtomgifkpnfgimaaProg.lean LOADS. Nothing in Lean hashes anything: it is a label: what it is worth is what the hold of that sum in a sandbox is worth. -/
noncomputable def Try.pinned : Pinned := { name := "ytomgifkpnfgimaa", sum := "24b9992048a6a2ed1fe0474abf15c865710c5376644681063382a92f6a2fa4aa", checked := Try.checked }
namespace Rows
def none {H : Type} : Left H := { results := [], args := [] }

/-- 'longstoplaw01.CodecWrites': WHATEVER THE INPUT: true; the input reads as it did. -/
def codecWritesSpec : ChangeSpec := { name := "codecWrites", fn := fun _ => fun
  | [d1, d2, d3] => { results := [.lit (.bool true)], args := [d1, d2, d3] }
  | _ => none }
def codecWritesRow : OpenClaim := { program := "ytomgifkpnfgimaa", sum := "24b9992048a6a2ed1fe0474abf15c865710c5376644681063382a92f6a2fa4aa", func := "longstop/longstoplaw01.CodecWrites", spec := "codecWrites", apart := false }
def CodecWritesSaid : Prop := codecWritesRow.holds Try.pinned (OpenSpec.ofChange codecWritesSpec)

/-- ITS FALSE NEIGHBOUR: 'it returns false'. Refute it at one input. -/
def codecWritesWrong : ChangeSpec := { name := "codecWrites", fn := fun _ => fun
  | [d1, d2, d3] => { results := [.lit (.bool false)], args := [d1, d2, d3] }
  | _ => none }
def CodecWritesWrongFalsely : Prop := codecWritesRow.holds Try.pinned (OpenSpec.ofChange codecWritesWrong)

/-- 'longstoplaw01.CodecOne': WHATEVER THE INPUT: true; the input reads as it did. -/
def codecOneSpec : ChangeSpec := { name := "codecOne", fn := fun _ => fun
  | [d1, d2] => { results := [.lit (.bool true)], args := [d1, d2] }
  | _ => none }
def codecOneRow : OpenClaim := { program := "ytomgifkpnfgimaa", sum := "24b9992048a6a2ed1fe0474abf15c865710c5376644681063382a92f6a2fa4aa", func := "longstop/longstoplaw01.CodecOne", spec := "codecOne", apart := false }
def CodecOneSaid : Prop := codecOneRow.holds Try.pinned (OpenSpec.ofChange codecOneSpec)

/-- ITS FALSE NEIGHBOUR: 'it returns false'. Refute it at one input. -/
def codecOneWrong : ChangeSpec := { name := "codecOne", fn := fun _ => fun
  | [d1, d2] => { results := [.lit (.bool false)], args := [d1, d2] }
  | _ => none }
def CodecOneWrongFalsely : Prop := codecOneRow.holds Try.pinned (OpenSpec.ofChange codecOneWrong)

/-- 'longstoplaw01.CodecLinear': WHATEVER THE INPUT: true; the input reads as it did. -/
def codecLinearSpec : ChangeSpec := { name := "codecLinear", fn := fun _ => fun
  | [d1, d2] => { results := [.lit (.bool true)], args := [d1, d2] }
  | _ => none }
def codecLinearRow : OpenClaim := { program := "ytomgifkpnfgimaa", sum := "24b9992048a6a2ed1fe0474abf15c865710c5376644681063382a92f6a2fa4aa", func := "longstop/longstoplaw01.CodecLinear", spec := "codecLinear", apart := false }
def CodecLinearSaid : Prop := codecLinearRow.holds Try.pinned (OpenSpec.ofChange codecLinearSpec)

/-- ITS FALSE NEIGHBOUR: 'it returns false'. Refute it at one input. -/
def codecLinearWrong : ChangeSpec := { name := "codecLinear", fn := fun _ => fun
  | [d1, d2] => { results := [.lit (.bool false)], args := [d1, d2] }
  | _ => none }
def CodecLinearWrongFalsely : Prop := codecLinearRow.holds Try.pinned (OpenSpec.ofChange codecLinearWrong)

/-- 'longstoplaw01.CodecBack': WHATEVER THE INPUT: true; the input reads as it did. -/
def codecBackSpec : ChangeSpec := { name := "codecBack", fn := fun _ => fun
  | [d1, d2] => { results := [.lit (.bool true)], args := [d1, d2] }
  | _ => none }
def codecBackRow : OpenClaim := { program := "ytomgifkpnfgimaa", sum := "24b9992048a6a2ed1fe0474abf15c865710c5376644681063382a92f6a2fa4aa", func := "longstop/longstoplaw01.CodecBack", spec := "codecBack", apart := false }
def CodecBackSaid : Prop := codecBackRow.holds Try.pinned (OpenSpec.ofChange codecBackSpec)

/-- ITS FALSE NEIGHBOUR: 'it returns false'. Refute it at one input. -/
def codecBackWrong : ChangeSpec := { name := "codecBack", fn := fun _ => fun
  | [d1, d2] => { results := [.lit (.bool false)], args := [d1, d2] }
  | _ => none }
def CodecBackWrongFalsely : Prop := codecBackRow.holds Try.pinned (OpenSpec.ofChange codecBackWrong)

/-- 'longstoplaw01.CodecNil': WHATEVER THE INPUT: true; the input reads as it did. -/
def codecNilSpec : ChangeSpec := { name := "codecNil", fn := fun _ => fun
  | [] => { results := [.lit (.bool true)], args := [] }
  | _ => none }
def codecNilRow : OpenClaim := { program := "ytomgifkpnfgimaa", sum := "24b9992048a6a2ed1fe0474abf15c865710c5376644681063382a92f6a2fa4aa", func := "longstop/longstoplaw01.CodecNil", spec := "codecNil", apart := false }
def CodecNilSaid : Prop := codecNilRow.holds Try.pinned (OpenSpec.ofChange codecNilSpec)

/-- ITS FALSE NEIGHBOUR: 'it returns false'. Refute it at one input. -/
def codecNilWrong : ChangeSpec := { name := "codecNil", fn := fun _ => fun
  | [] => { results := [.lit (.bool false)], args := [] }
  | _ => none }
def CodecNilWrongFalsely : Prop := codecNilRow.holds Try.pinned (OpenSpec.ofChange codecNilWrong)

/-- 'longstoplaw01.CodecFirst': WHATEVER THE INPUT: true; the input reads as it did. -/
def codecFirstSpec : ChangeSpec := { name := "codecFirst", fn := fun _ => fun
  | [d1, d2, d3] => { results := [.lit (.bool true)], args := [d1, d2, d3] }
  | _ => none }
def codecFirstRow : OpenClaim := { program := "ytomgifkpnfgimaa", sum := "24b9992048a6a2ed1fe0474abf15c865710c5376644681063382a92f6a2fa4aa", func := "longstop/longstoplaw01.CodecFirst", spec := "codecFirst", apart := false }
def CodecFirstSaid : Prop := codecFirstRow.holds Try.pinned (OpenSpec.ofChange codecFirstSpec)

/-- ITS FALSE NEIGHBOUR: 'it returns false'. Refute it at one input. -/
def codecFirstWrong : ChangeSpec := { name := "codecFirst", fn := fun _ => fun
  | [d1, d2, d3] => { results := [.lit (.bool false)], args := [d1, d2, d3] }
  | _ => none }
def CodecFirstWrongFalsely : Prop := codecFirstRow.holds Try.pinned (OpenSpec.ofChange codecFirstWrong)

/-- 'longstoplaw01.CodecRot': WHATEVER THE INPUT: true; the input reads as it did. -/
def codecRotSpec : ChangeSpec := { name := "codecRot", fn := fun _ => fun
  | [d1, d2, d3] => { results := [.lit (.bool true)], args := [d1, d2, d3] }
  | _ => none }
def codecRotRow : OpenClaim := { program := "ytomgifkpnfgimaa", sum := "24b9992048a6a2ed1fe0474abf15c865710c5376644681063382a92f6a2fa4aa", func := "longstop/longstoplaw01.CodecRot", spec := "codecRot", apart := false }
def CodecRotSaid : Prop := codecRotRow.holds Try.pinned (OpenSpec.ofChange codecRotSpec)

/-- ITS FALSE NEIGHBOUR: 'it returns false'. Refute it at one input. -/
def codecRotWrong : ChangeSpec := { name := "codecRot", fn := fun _ => fun
  | [d1, d2, d3] => { results := [.lit (.bool false)], args := [d1, d2, d3] }
  | _ => none }
def CodecRotWrongFalsely : Prop := codecRotRow.holds Try.pinned (OpenSpec.ofChange codecRotWrong)

/- THE SECOND FORM. 'bulk': how many values and letters a reading holds, each counted each time it is reached (what is shared counts as often as it is met; a slice's spare places count too). A statement '..UptoSaid' is the law's where the arguments, and the package variables that the reading takes, are together of bulk at most 1048576: NARROWER than '..Said'. Prove '..Said' where nothing that the law and all that it calls make is longer than what came in: it says more and counts as full. Else prove '..UptoSaid'. A law counts once. -/
mutual
def uptoBulk {H : Type} : DataW H → Nat
  | .lit (.string bytes) => bytes.length + 1
  | .lit _ => 1
  | .nil => 1
  | .ptr d => uptoBulk d + 1
  | .slice elems spare => uptoBulkAll elems + uptoBulkAll spare + 1
  | .agg parts => uptoBulkAll parts + 1
  | .iface _ d => uptoBulk d + 1
  | .map entries => uptoBulkEntries entries + 1
  | .held _ => 1
def uptoBulkAll {H : Type} : List (DataW H) → Nat
  | [] => 0
  | d :: r => uptoBulk d + uptoBulkAll r
def uptoBulkEntries {H : Type} : List (Lit × DataW H) → Nat
  | [] => 0
  | x :: r => uptoBulkEntry x + uptoBulkEntries r
def uptoBulkEntry {H : Type} : Lit × DataW H → Nat
  | (.string bytes, d) => bytes.length + uptoBulk d + 1
  | (_, d) => uptoBulk d + 1
 end
def uptoSmall : (H : Type) → List (DataW H) → Bool := fun _ ds => decide (uptoBulkAll ds ≤ 1048576)
def OpenSpec.upto (s : _root_.Go.ChangeSpec) : _root_.Go.OpenSpec := { _root_.Go.OpenSpec.ofChange s with cond := some uptoSmall }

/-- 'longstoplaw01.CodecWrites', WHERE WHAT IT READS IS OF BULK AT MOST 1048576: true; the input reads as it did. -/
def codecWritesUptoRow : OpenClaim := { program := "ytomgifkpnfgimaa", sum := "24b9992048a6a2ed1fe0474abf15c865710c5376644681063382a92f6a2fa4aa", func := "longstop/longstoplaw01.CodecWrites", spec := "codecWrites", apart := false, narrowed := true }
def CodecWritesUptoSaid : Prop := codecWritesUptoRow.holds Try.pinned (OpenSpec.upto codecWritesSpec)

/-- 'longstoplaw01.CodecOne', WHERE WHAT IT READS IS OF BULK AT MOST 1048576: true; the input reads as it did. -/
def codecOneUptoRow : OpenClaim := { program := "ytomgifkpnfgimaa", sum := "24b9992048a6a2ed1fe0474abf15c865710c5376644681063382a92f6a2fa4aa", func := "longstop/longstoplaw01.CodecOne", spec := "codecOne", apart := false, narrowed := true }
def CodecOneUptoSaid : Prop := codecOneUptoRow.holds Try.pinned (OpenSpec.upto codecOneSpec)

/-- 'longstoplaw01.CodecLinear', WHERE WHAT IT READS IS OF BULK AT MOST 1048576: true; the input reads as it did. -/
def codecLinearUptoRow : OpenClaim := { program := "ytomgifkpnfgimaa", sum := "24b9992048a6a2ed1fe0474abf15c865710c5376644681063382a92f6a2fa4aa", func := "longstop/longstoplaw01.CodecLinear", spec := "codecLinear", apart := false, narrowed := true }
def CodecLinearUptoSaid : Prop := codecLinearUptoRow.holds Try.pinned (OpenSpec.upto codecLinearSpec)

/-- 'longstoplaw01.CodecBack', WHERE WHAT IT READS IS OF BULK AT MOST 1048576: true; the input reads as it did. -/
def codecBackUptoRow : OpenClaim := { program := "ytomgifkpnfgimaa", sum := "24b9992048a6a2ed1fe0474abf15c865710c5376644681063382a92f6a2fa4aa", func := "longstop/longstoplaw01.CodecBack", spec := "codecBack", apart := false, narrowed := true }
def CodecBackUptoSaid : Prop := codecBackUptoRow.holds Try.pinned (OpenSpec.upto codecBackSpec)

/-- 'longstoplaw01.CodecNil', WHERE WHAT IT READS IS OF BULK AT MOST 1048576: true; the input reads as it did. -/
def codecNilUptoRow : OpenClaim := { program := "ytomgifkpnfgimaa", sum := "24b9992048a6a2ed1fe0474abf15c865710c5376644681063382a92f6a2fa4aa", func := "longstop/longstoplaw01.CodecNil", spec := "codecNil", apart := false, narrowed := true }
def CodecNilUptoSaid : Prop := codecNilUptoRow.holds Try.pinned (OpenSpec.upto codecNilSpec)

/-- 'longstoplaw01.CodecFirst', WHERE WHAT IT READS IS OF BULK AT MOST 1048576: true; the input reads as it did. -/
def codecFirstUptoRow : OpenClaim := { program := "ytomgifkpnfgimaa", sum := "24b9992048a6a2ed1fe0474abf15c865710c5376644681063382a92f6a2fa4aa", func := "longstop/longstoplaw01.CodecFirst", spec := "codecFirst", apart := false, narrowed := true }
def CodecFirstUptoSaid : Prop := codecFirstUptoRow.holds Try.pinned (OpenSpec.upto codecFirstSpec)

/-- 'longstoplaw01.CodecRot', WHERE WHAT IT READS IS OF BULK AT MOST 1048576: true; the input reads as it did. -/
def codecRotUptoRow : OpenClaim := { program := "ytomgifkpnfgimaa", sum := "24b9992048a6a2ed1fe0474abf15c865710c5376644681063382a92f6a2fa4aa", func := "longstop/longstoplaw01.CodecRot", spec := "codecRot", apart := false, narrowed := true }
def CodecRotUptoSaid : Prop := codecRotUptoRow.holds Try.pinned (OpenSpec.upto codecRotSpec)

end Rows
end Go.Proofs.Ytomgifkpnfgimaa
