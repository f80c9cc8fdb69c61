/-
  DERIVED. GIVEN WITH THE SEED: THE CARDS: each row of YtnchjdhepakokaaGreatDoorRows.lean that lists a variable, with what it lists TIED to the program's text (the seventh form; the later family's looks); each row that meets fmt, with fmt's text TOLD by the authors' own Lean function (tested against real Go, not proved from fmt's source: count such statements apart). THE CARD IS WHAT COUNTS. Prove the row's statement (the work); the ties are given (YtnchjdhepakokaaGreatDoorTie.lean); close each card by the builder's one call (the guide's Derived/Test/ToyasCard.lean, 'card_holds'). Laid BY PROGRAM, IN A SANDBOX (cutbox-door.mjs). By AI agents, Wed Nov 11 2026. No macro, syntax, notation, axiom, sorry.
-/
import Derived.Test.YtnchjdhepakokaaGreatDoorRows
import GoSem.ClaimSeven
namespace Go.Proofs.YtnchjdhepakokaaGreatDoor
namespace Rows

/-- THE TIED CARD OF 'longstoplaw07.EvalFunctions'. -/
def evalFunctionsCard : Claim7 := { stood := { row := evalFunctionsRow, standIns := [], harness := (true, "78437c3b7531760fed31a8607bae3fb8ec3b4f916377ea75976054335517be10"), looks := true }, kinds := [], alts := [], laidByText := true, laidKinds := [.data, .data, .pinned], laidTests := true, laidLooks := .later }
def EvalFunctionsCardSaid : Prop := Claim7.holds Tryz.pinned (.plain (OpenSpec.ofChange evalFunctionsSpec)) evalFunctionsCard

/-- THE TIED CARD OF 'longstoplaw07.EvalSteps'. -/
def evalStepsCard : Claim7 := { stood := { row := evalStepsRow, standIns := [], harness := (true, "78437c3b7531760fed31a8607bae3fb8ec3b4f916377ea75976054335517be10"), looks := true }, kinds := [], alts := [], laidByText := true, laidKinds := [.data, .data, .pinned], laidTests := true, laidLooks := .later }
def EvalStepsCardSaid : Prop := Claim7.holds Tryz.pinned (.plain (OpenSpec.ofChange evalStepsSpec)) evalStepsCard

/-- THE TIED CARD OF 'longstoplaw07.EvalRight'. -/
def evalRightCard : Claim7 := { stood := { row := evalRightRow, standIns := [], harness := (true, "78437c3b7531760fed31a8607bae3fb8ec3b4f916377ea75976054335517be10"), looks := true }, kinds := [], alts := [], laidByText := true, laidKinds := [.data, .data, .pinned], laidTests := true, laidLooks := .later }
def EvalRightCardSaid : Prop := Claim7.holds Tryz.pinned (.plain (OpenSpec.ofChange evalRightSpec)) evalRightCard

/-- THE TIED CARD OF 'longstoplaw07.EvalNulls'. -/
def evalNullsCard : Claim7 := { stood := { row := evalNullsRow, standIns := [], harness := (true, "78437c3b7531760fed31a8607bae3fb8ec3b4f916377ea75976054335517be10"), looks := true }, kinds := [], alts := [], laidByText := true, laidKinds := [.data, .data, .pinned], laidTests := true, laidLooks := .later }
def EvalNullsCardSaid : Prop := Claim7.holds Tryz.pinned (.plain (OpenSpec.ofChange evalNullsSpec)) evalNullsCard

/-- THE TIED CARD OF 'longstoplaw07.EvalAll'. -/
def evalAllCard : Claim7 := { stood := { row := evalAllRow, standIns := [], harness := (true, "78437c3b7531760fed31a8607bae3fb8ec3b4f916377ea75976054335517be10"), looks := true }, kinds := [], alts := [], laidByText := true, laidKinds := [.data, .data, .pinned], laidTests := true, laidLooks := .later }
def EvalAllCardSaid : Prop := Claim7.holds Tryz.pinned (.plain (OpenSpec.ofChange evalAllSpec)) evalAllCard

/-- THE TIED CARD OF 'longstoplaw07.EvalNamed'. -/
def evalNamedCard : Claim7 := { stood := { row := evalNamedRow, standIns := [], harness := (true, "78437c3b7531760fed31a8607bae3fb8ec3b4f916377ea75976054335517be10"), looks := true }, kinds := [], alts := [], laidByText := true, laidKinds := [.data, .data, .pinned], laidTests := true, laidLooks := .later }
def EvalNamedCardSaid : Prop := Claim7.holds Tryz.pinned (.plain (OpenSpec.ofChange evalNamedSpec)) evalNamedCard

/-- THE TIED CARD OF 'longstoplaw04.DatumTexts'. -/
def datumTextsCard : Claim7 := { stood := { row := datumTextsRow, standIns := [], harness := (true, "78437c3b7531760fed31a8607bae3fb8ec3b4f916377ea75976054335517be10"), looks := true }, kinds := [], alts := [], laidByText := true, laidKinds := [.data, .data, .data, .data, .sentinel, .sentinel, .pinned], laidTests := true, laidLooks := .later }
def DatumTextsCardSaid : Prop := Claim7.holds Tryz.pinned (.plain (OpenSpec.ofChange datumTextsSpec)) datumTextsCard

/-- THE TIED CARD OF 'longstoplaw04.DatumLogic'. -/
def datumLogicCard : Claim7 := { stood := { row := datumLogicRow, standIns := [], harness := (true, "78437c3b7531760fed31a8607bae3fb8ec3b4f916377ea75976054335517be10"), looks := true }, kinds := [], alts := [], laidByText := true, laidKinds := [.data, .data, .data, .data, .sentinel, .sentinel, .pinned], laidTests := true, laidLooks := .later }
def DatumLogicCardSaid : Prop := Claim7.holds Tryz.pinned (.plain (OpenSpec.ofChange datumLogicSpec)) datumLogicCard

/-- THE TIED CARD OF 'longstoplaw04.DatumOrder'. -/
def datumOrderCard : Claim7 := { stood := { row := datumOrderRow, standIns := [], harness := (true, "78437c3b7531760fed31a8607bae3fb8ec3b4f916377ea75976054335517be10"), looks := true }, kinds := [], alts := [], laidByText := true, laidKinds := [.data, .data, .data, .data, .sentinel, .sentinel, .data, .pinned], laidTests := true, laidLooks := .later }
def DatumOrderCardSaid : Prop := Claim7.holds Tryz.pinned (.plain (OpenSpec.ofChange datumOrderSpec)) datumOrderCard

/-- THE TIED CARD OF 'longstoplaw04.DatumOrders'. -/
def datumOrdersCard : Claim7 := { stood := { row := datumOrdersRow, standIns := [], harness := (true, "78437c3b7531760fed31a8607bae3fb8ec3b4f916377ea75976054335517be10"), looks := true }, kinds := [], alts := [], laidByText := true, laidKinds := [.data, .data, .data, .data, .sentinel, .sentinel, .data, .pinned], laidTests := true, laidLooks := .later }
def DatumOrdersCardSaid : Prop := Claim7.holds Tryz.pinned (.plain (OpenSpec.ofChange datumOrdersSpec)) datumOrdersCard

/-- THE TIED CARD OF 'longstoplaw04.DatumBack'. -/
def datumBackCard : Claim7 := { stood := { row := datumBackRow, standIns := [], harness := (true, "78437c3b7531760fed31a8607bae3fb8ec3b4f916377ea75976054335517be10"), looks := true }, kinds := [], alts := [], laidByText := true, laidKinds := [.data, .data, .data, .data, .sentinel, .sentinel, .pinned], laidTests := true, laidLooks := .later }
def DatumBackCardSaid : Prop := Claim7.holds Tryz.pinned (.plain (OpenSpec.ofChange datumBackSpec)) datumBackCard

/-- THE TIED CARD OF 'longstoplaw04.DatumKeys'. -/
def datumKeysCard : Claim7 := { stood := { row := datumKeysRow, standIns := [], harness := (true, "78437c3b7531760fed31a8607bae3fb8ec3b4f916377ea75976054335517be10"), looks := true }, kinds := [], alts := [], laidByText := true, laidKinds := [.data, .data, .data, .data, .sentinel, .sentinel, .data, .pinned], laidTests := true, laidLooks := .later }
def DatumKeysCardSaid : Prop := Claim7.holds Tryz.pinned (.plain (OpenSpec.ofChange datumKeysSpec)) datumKeysCard

/-- THE TIED CARD OF 'longstoplaw04.DatumBytes'. -/
def datumBytesCard : Claim7 := { stood := { row := datumBytesRow, standIns := [], harness := (true, "78437c3b7531760fed31a8607bae3fb8ec3b4f916377ea75976054335517be10"), looks := true }, kinds := [], alts := [], laidByText := true, laidKinds := [.data, .data, .data, .data, .sentinel, .sentinel, .pinned], laidTests := true, laidLooks := .later }
def DatumBytesCardSaid : Prop := Claim7.holds Tryz.pinned (.plain (OpenSpec.ofChange datumBytesSpec)) datumBytesCard

/-- THE SECOND FORM's CARD OF 'longstoplaw07.EvalFunctions'. -/
def evalFunctionsUptoCard : Claim7 := { stood := { row := evalFunctionsUptoRow, standIns := [], harness := (true, "78437c3b7531760fed31a8607bae3fb8ec3b4f916377ea75976054335517be10"), looks := true }, kinds := [], alts := [], laidByText := true, laidKinds := [.data, .data, .pinned], laidTests := true, laidLooks := .later }
def EvalFunctionsUptoCardSaid : Prop := Claim7.holds Tryz.pinned (.plain (OpenSpec.upto evalFunctionsSpec)) evalFunctionsUptoCard

/-- THE SECOND FORM's CARD OF 'longstoplaw07.EvalSteps'. -/
def evalStepsUptoCard : Claim7 := { stood := { row := evalStepsUptoRow, standIns := [], harness := (true, "78437c3b7531760fed31a8607bae3fb8ec3b4f916377ea75976054335517be10"), looks := true }, kinds := [], alts := [], laidByText := true, laidKinds := [.data, .data, .pinned], laidTests := true, laidLooks := .later }
def EvalStepsUptoCardSaid : Prop := Claim7.holds Tryz.pinned (.plain (OpenSpec.upto evalStepsSpec)) evalStepsUptoCard

/-- THE SECOND FORM's CARD OF 'longstoplaw07.EvalRight'. -/
def evalRightUptoCard : Claim7 := { stood := { row := evalRightUptoRow, standIns := [], harness := (true, "78437c3b7531760fed31a8607bae3fb8ec3b4f916377ea75976054335517be10"), looks := true }, kinds := [], alts := [], laidByText := true, laidKinds := [.data, .data, .pinned], laidTests := true, laidLooks := .later }
def EvalRightUptoCardSaid : Prop := Claim7.holds Tryz.pinned (.plain (OpenSpec.upto evalRightSpec)) evalRightUptoCard

/-- THE SECOND FORM's CARD OF 'longstoplaw07.EvalNulls'. -/
def evalNullsUptoCard : Claim7 := { stood := { row := evalNullsUptoRow, standIns := [], harness := (true, "78437c3b7531760fed31a8607bae3fb8ec3b4f916377ea75976054335517be10"), looks := true }, kinds := [], alts := [], laidByText := true, laidKinds := [.data, .data, .pinned], laidTests := true, laidLooks := .later }
def EvalNullsUptoCardSaid : Prop := Claim7.holds Tryz.pinned (.plain (OpenSpec.upto evalNullsSpec)) evalNullsUptoCard

/-- THE SECOND FORM's CARD OF 'longstoplaw07.EvalAll'. -/
def evalAllUptoCard : Claim7 := { stood := { row := evalAllUptoRow, standIns := [], harness := (true, "78437c3b7531760fed31a8607bae3fb8ec3b4f916377ea75976054335517be10"), looks := true }, kinds := [], alts := [], laidByText := true, laidKinds := [.data, .data, .pinned], laidTests := true, laidLooks := .later }
def EvalAllUptoCardSaid : Prop := Claim7.holds Tryz.pinned (.plain (OpenSpec.upto evalAllSpec)) evalAllUptoCard

/-- THE SECOND FORM's CARD OF 'longstoplaw07.EvalNamed'. -/
def evalNamedUptoCard : Claim7 := { stood := { row := evalNamedUptoRow, standIns := [], harness := (true, "78437c3b7531760fed31a8607bae3fb8ec3b4f916377ea75976054335517be10"), looks := true }, kinds := [], alts := [], laidByText := true, laidKinds := [.data, .data, .pinned], laidTests := true, laidLooks := .later }
def EvalNamedUptoCardSaid : Prop := Claim7.holds Tryz.pinned (.plain (OpenSpec.upto evalNamedSpec)) evalNamedUptoCard

/-- THE SECOND FORM's CARD OF 'longstoplaw04.DatumTexts'. -/
def datumTextsUptoCard : Claim7 := { stood := { row := datumTextsUptoRow, standIns := [], harness := (true, "78437c3b7531760fed31a8607bae3fb8ec3b4f916377ea75976054335517be10"), looks := true }, kinds := [], alts := [], laidByText := true, laidKinds := [.data, .data, .data, .data, .sentinel, .sentinel, .pinned], laidTests := true, laidLooks := .later }
def DatumTextsUptoCardSaid : Prop := Claim7.holds Tryz.pinned (.plain (OpenSpec.upto datumTextsSpec)) datumTextsUptoCard

/-- THE SECOND FORM's CARD OF 'longstoplaw04.DatumLogic'. -/
def datumLogicUptoCard : Claim7 := { stood := { row := datumLogicUptoRow, standIns := [], harness := (true, "78437c3b7531760fed31a8607bae3fb8ec3b4f916377ea75976054335517be10"), looks := true }, kinds := [], alts := [], laidByText := true, laidKinds := [.data, .data, .data, .data, .sentinel, .sentinel, .pinned], laidTests := true, laidLooks := .later }
def DatumLogicUptoCardSaid : Prop := Claim7.holds Tryz.pinned (.plain (OpenSpec.upto datumLogicSpec)) datumLogicUptoCard

/-- THE SECOND FORM's CARD OF 'longstoplaw04.DatumOrder'. -/
def datumOrderUptoCard : Claim7 := { stood := { row := datumOrderUptoRow, standIns := [], harness := (true, "78437c3b7531760fed31a8607bae3fb8ec3b4f916377ea75976054335517be10"), looks := true }, kinds := [], alts := [], laidByText := true, laidKinds := [.data, .data, .data, .data, .sentinel, .sentinel, .data, .pinned], laidTests := true, laidLooks := .later }
def DatumOrderUptoCardSaid : Prop := Claim7.holds Tryz.pinned (.plain (OpenSpec.upto datumOrderSpec)) datumOrderUptoCard

/-- THE SECOND FORM's CARD OF 'longstoplaw04.DatumOrders'. -/
def datumOrdersUptoCard : Claim7 := { stood := { row := datumOrdersUptoRow, standIns := [], harness := (true, "78437c3b7531760fed31a8607bae3fb8ec3b4f916377ea75976054335517be10"), looks := true }, kinds := [], alts := [], laidByText := true, laidKinds := [.data, .data, .data, .data, .sentinel, .sentinel, .data, .pinned], laidTests := true, laidLooks := .later }
def DatumOrdersUptoCardSaid : Prop := Claim7.holds Tryz.pinned (.plain (OpenSpec.upto datumOrdersSpec)) datumOrdersUptoCard

/-- THE SECOND FORM's CARD OF 'longstoplaw04.DatumBack'. -/
def datumBackUptoCard : Claim7 := { stood := { row := datumBackUptoRow, standIns := [], harness := (true, "78437c3b7531760fed31a8607bae3fb8ec3b4f916377ea75976054335517be10"), looks := true }, kinds := [], alts := [], laidByText := true, laidKinds := [.data, .data, .data, .data, .sentinel, .sentinel, .pinned], laidTests := true, laidLooks := .later }
def DatumBackUptoCardSaid : Prop := Claim7.holds Tryz.pinned (.plain (OpenSpec.upto datumBackSpec)) datumBackUptoCard

/-- THE SECOND FORM's CARD OF 'longstoplaw04.DatumKeys'. -/
def datumKeysUptoCard : Claim7 := { stood := { row := datumKeysUptoRow, standIns := [], harness := (true, "78437c3b7531760fed31a8607bae3fb8ec3b4f916377ea75976054335517be10"), looks := true }, kinds := [], alts := [], laidByText := true, laidKinds := [.data, .data, .data, .data, .sentinel, .sentinel, .data, .pinned], laidTests := true, laidLooks := .later }
def DatumKeysUptoCardSaid : Prop := Claim7.holds Tryz.pinned (.plain (OpenSpec.upto datumKeysSpec)) datumKeysUptoCard

/-- THE SECOND FORM's CARD OF 'longstoplaw04.DatumBytes'. -/
def datumBytesUptoCard : Claim7 := { stood := { row := datumBytesUptoRow, standIns := [], harness := (true, "78437c3b7531760fed31a8607bae3fb8ec3b4f916377ea75976054335517be10"), looks := true }, kinds := [], alts := [], laidByText := true, laidKinds := [.data, .data, .data, .data, .sentinel, .sentinel, .pinned], laidTests := true, laidLooks := .later }
def DatumBytesUptoCardSaid : Prop := Claim7.holds Tryz.pinned (.plain (OpenSpec.upto datumBytesSpec)) datumBytesUptoCard
end Rows
end Go.Proofs.YtnchjdhepakokaaGreatDoor
