/-
  DERIVED. GIVEN WITH THE SEED: THE CARDS: each row of YtcneenlcbjicnaaDoorRows.lean that lists a variable, with what it lists TIED to the program's text (the seventh form; the later family's looks); each row that meets fmt, with fmt's text TOLD by the authors' own Lean function (tested against real Go, not proved from fmt's source: count such statements apart). THE CARD IS WHAT COUNTS. Prove the row's statement (the work); the ties are given (YtcneenlcbjicnaaDoorTie.lean); close each card by the builder's one call (the guide's Derived/Test/ToyasCard.lean, 'card_holds'). Laid BY PROGRAM, IN A SANDBOX (cutbox-door.mjs). By AI agents, Wed Nov 11 2026. No macro, syntax, notation, axiom, sorry.
-/
import Derived.Test.YtcneenlcbjicnaaDoorRows
import GoSem.ClaimSeven
namespace Go.Proofs.YtcneenlcbjicnaaDoor
namespace Rows

/-- THE TIED CARD OF 'longstoplaw02.DecimalNear'. -/
def decimalNearCard : Claim7 := { stood := { row := decimalNearRow, standIns := [], harness := (true, "54d7e0c429a08ddc864fa5c9776f654f40810507b8fe2bd99a0e43a2819b2d58"), looks := false }, kinds := [], alts := [], laidByText := true, laidKinds := [.data, .data, .data, .data], laidTests := true, laidLooks := .later }
def DecimalNearCardSaid : Prop := Claim7.holds Tryd.pinned (.plain (OpenSpec.ofChange decimalNearSpec)) decimalNearCard

/-- THE TIED CARD OF 'longstoplaw02.DecimalTimes'. -/
def decimalTimesCard : Claim7 := { stood := { row := decimalTimesRow, standIns := [], harness := (true, "54d7e0c429a08ddc864fa5c9776f654f40810507b8fe2bd99a0e43a2819b2d58"), looks := false }, kinds := [], alts := [], laidByText := true, laidKinds := [.data, .data, .data, .data], laidTests := true, laidLooks := .later }
def DecimalTimesCardSaid : Prop := Claim7.holds Tryd.pinned (.plain (OpenSpec.ofChange decimalTimesSpec)) decimalTimesCard

/-- THE TIED CARD OF 'longstoplaw02.DecimalOrder'. -/
def decimalOrderCard : Claim7 := { stood := { row := decimalOrderRow, standIns := [], harness := (true, "54d7e0c429a08ddc864fa5c9776f654f40810507b8fe2bd99a0e43a2819b2d58"), looks := false }, kinds := [], alts := [], laidByText := true, laidKinds := [.data, .data, .data, .data], laidTests := true, laidLooks := .later }
def DecimalOrderCardSaid : Prop := Claim7.holds Tryd.pinned (.plain (OpenSpec.ofChange decimalOrderSpec)) decimalOrderCard

/-- THE TIED CARD OF 'longstoplaw02.DecimalSigns'. -/
def decimalSignsCard : Claim7 := { stood := { row := decimalSignsRow, standIns := [], harness := (true, "54d7e0c429a08ddc864fa5c9776f654f40810507b8fe2bd99a0e43a2819b2d58"), looks := false }, kinds := [], alts := [], laidByText := true, laidKinds := [.data, .data, .data, .data], laidTests := true, laidLooks := .later }
def DecimalSignsCardSaid : Prop := Claim7.holds Tryd.pinned (.plain (OpenSpec.ofChange decimalSignsSpec)) decimalSignsCard

/-- THE TIED CARD OF 'longstoplaw02.DecimalSums'. -/
def decimalSumsCard : Claim7 := { stood := { row := decimalSumsRow, standIns := [], harness := (true, "54d7e0c429a08ddc864fa5c9776f654f40810507b8fe2bd99a0e43a2819b2d58"), looks := false }, kinds := [], alts := [], laidByText := true, laidKinds := [.data, .data, .data, .data], laidTests := true, laidLooks := .later }
def DecimalSumsCardSaid : Prop := Claim7.holds Tryd.pinned (.plain (OpenSpec.ofChange decimalSumsSpec)) decimalSumsCard

/-- THE TIED CARD OF 'longstoplaw02.DecimalInts'. -/
def decimalIntsCard : Claim7 := { stood := { row := decimalIntsRow, standIns := [], harness := (true, "54d7e0c429a08ddc864fa5c9776f654f40810507b8fe2bd99a0e43a2819b2d58"), looks := false }, kinds := [], alts := [], laidByText := true, laidKinds := [.data, .data, .data, .data], laidTests := true, laidLooks := .later }
def DecimalIntsCardSaid : Prop := Claim7.holds Tryd.pinned (.plain (OpenSpec.ofChange decimalIntsSpec)) decimalIntsCard

/-- THE TIED CARD OF 'longstoplaw02.DecimalLaws'. -/
def decimalLawsCard : Claim7 := { stood := { row := decimalLawsRow, standIns := [], harness := (true, "54d7e0c429a08ddc864fa5c9776f654f40810507b8fe2bd99a0e43a2819b2d58"), looks := false }, kinds := [], alts := [], laidByText := true, laidKinds := [.data, .data, .data, .data], laidTests := true, laidLooks := .later }
def DecimalLawsCardSaid : Prop := Claim7.holds Tryd.pinned (.plain (OpenSpec.ofChange decimalLawsSpec)) decimalLawsCard

/-- THE TIED CARD OF 'longstoplaw02.DecimalTexts'. -/
def decimalTextsCard : Claim7 := { stood := { row := decimalTextsRow, standIns := [], harness := (true, "54d7e0c429a08ddc864fa5c9776f654f40810507b8fe2bd99a0e43a2819b2d58"), looks := false }, kinds := [], alts := [], laidByText := true, laidKinds := [.data, .data, .data, .data], laidTests := true, laidLooks := .later }
def DecimalTextsCardSaid : Prop := Claim7.holds Tryd.pinned (.plain (OpenSpec.ofChange decimalTextsSpec)) decimalTextsCard

/-- THE TIED CARD OF 'longstoplaw02.DecimalBack'. -/
def decimalBackCard : Claim7 := { stood := { row := decimalBackRow, standIns := [], harness := (true, "54d7e0c429a08ddc864fa5c9776f654f40810507b8fe2bd99a0e43a2819b2d58"), looks := false }, kinds := [], alts := [], laidByText := true, laidKinds := [.data, .data, .data, .data], laidTests := true, laidLooks := .later }
def DecimalBackCardSaid : Prop := Claim7.holds Tryd.pinned (.plain (OpenSpec.ofChange decimalBackSpec)) decimalBackCard

/-- THE SECOND FORM's CARD OF 'longstoplaw02.DecimalNear'. -/
def decimalNearUptoCard : Claim7 := { stood := { row := decimalNearUptoRow, standIns := [], harness := (true, "54d7e0c429a08ddc864fa5c9776f654f40810507b8fe2bd99a0e43a2819b2d58"), looks := false }, kinds := [], alts := [], laidByText := true, laidKinds := [.data, .data, .data, .data], laidTests := true, laidLooks := .later }
def DecimalNearUptoCardSaid : Prop := Claim7.holds Tryd.pinned (.plain (OpenSpec.upto decimalNearSpec)) decimalNearUptoCard

/-- THE SECOND FORM's CARD OF 'longstoplaw02.DecimalTimes'. -/
def decimalTimesUptoCard : Claim7 := { stood := { row := decimalTimesUptoRow, standIns := [], harness := (true, "54d7e0c429a08ddc864fa5c9776f654f40810507b8fe2bd99a0e43a2819b2d58"), looks := false }, kinds := [], alts := [], laidByText := true, laidKinds := [.data, .data, .data, .data], laidTests := true, laidLooks := .later }
def DecimalTimesUptoCardSaid : Prop := Claim7.holds Tryd.pinned (.plain (OpenSpec.upto decimalTimesSpec)) decimalTimesUptoCard

/-- THE SECOND FORM's CARD OF 'longstoplaw02.DecimalOrder'. -/
def decimalOrderUptoCard : Claim7 := { stood := { row := decimalOrderUptoRow, standIns := [], harness := (true, "54d7e0c429a08ddc864fa5c9776f654f40810507b8fe2bd99a0e43a2819b2d58"), looks := false }, kinds := [], alts := [], laidByText := true, laidKinds := [.data, .data, .data, .data], laidTests := true, laidLooks := .later }
def DecimalOrderUptoCardSaid : Prop := Claim7.holds Tryd.pinned (.plain (OpenSpec.upto decimalOrderSpec)) decimalOrderUptoCard

/-- THE SECOND FORM's CARD OF 'longstoplaw02.DecimalSigns'. -/
def decimalSignsUptoCard : Claim7 := { stood := { row := decimalSignsUptoRow, standIns := [], harness := (true, "54d7e0c429a08ddc864fa5c9776f654f40810507b8fe2bd99a0e43a2819b2d58"), looks := false }, kinds := [], alts := [], laidByText := true, laidKinds := [.data, .data, .data, .data], laidTests := true, laidLooks := .later }
def DecimalSignsUptoCardSaid : Prop := Claim7.holds Tryd.pinned (.plain (OpenSpec.upto decimalSignsSpec)) decimalSignsUptoCard

/-- THE SECOND FORM's CARD OF 'longstoplaw02.DecimalSums'. -/
def decimalSumsUptoCard : Claim7 := { stood := { row := decimalSumsUptoRow, standIns := [], harness := (true, "54d7e0c429a08ddc864fa5c9776f654f40810507b8fe2bd99a0e43a2819b2d58"), looks := false }, kinds := [], alts := [], laidByText := true, laidKinds := [.data, .data, .data, .data], laidTests := true, laidLooks := .later }
def DecimalSumsUptoCardSaid : Prop := Claim7.holds Tryd.pinned (.plain (OpenSpec.upto decimalSumsSpec)) decimalSumsUptoCard

/-- THE SECOND FORM's CARD OF 'longstoplaw02.DecimalInts'. -/
def decimalIntsUptoCard : Claim7 := { stood := { row := decimalIntsUptoRow, standIns := [], harness := (true, "54d7e0c429a08ddc864fa5c9776f654f40810507b8fe2bd99a0e43a2819b2d58"), looks := false }, kinds := [], alts := [], laidByText := true, laidKinds := [.data, .data, .data, .data], laidTests := true, laidLooks := .later }
def DecimalIntsUptoCardSaid : Prop := Claim7.holds Tryd.pinned (.plain (OpenSpec.upto decimalIntsSpec)) decimalIntsUptoCard

/-- THE SECOND FORM's CARD OF 'longstoplaw02.DecimalLaws'. -/
def decimalLawsUptoCard : Claim7 := { stood := { row := decimalLawsUptoRow, standIns := [], harness := (true, "54d7e0c429a08ddc864fa5c9776f654f40810507b8fe2bd99a0e43a2819b2d58"), looks := false }, kinds := [], alts := [], laidByText := true, laidKinds := [.data, .data, .data, .data], laidTests := true, laidLooks := .later }
def DecimalLawsUptoCardSaid : Prop := Claim7.holds Tryd.pinned (.plain (OpenSpec.upto decimalLawsSpec)) decimalLawsUptoCard

/-- THE SECOND FORM's CARD OF 'longstoplaw02.DecimalTexts'. -/
def decimalTextsUptoCard : Claim7 := { stood := { row := decimalTextsUptoRow, standIns := [], harness := (true, "54d7e0c429a08ddc864fa5c9776f654f40810507b8fe2bd99a0e43a2819b2d58"), looks := false }, kinds := [], alts := [], laidByText := true, laidKinds := [.data, .data, .data, .data], laidTests := true, laidLooks := .later }
def DecimalTextsUptoCardSaid : Prop := Claim7.holds Tryd.pinned (.plain (OpenSpec.upto decimalTextsSpec)) decimalTextsUptoCard

/-- THE SECOND FORM's CARD OF 'longstoplaw02.DecimalBack'. -/
def decimalBackUptoCard : Claim7 := { stood := { row := decimalBackUptoRow, standIns := [], harness := (true, "54d7e0c429a08ddc864fa5c9776f654f40810507b8fe2bd99a0e43a2819b2d58"), looks := false }, kinds := [], alts := [], laidByText := true, laidKinds := [.data, .data, .data, .data], laidTests := true, laidLooks := .later }
def DecimalBackUptoCardSaid : Prop := Claim7.holds Tryd.pinned (.plain (OpenSpec.upto decimalBackSpec)) decimalBackUptoCard
end Rows
end Go.Proofs.YtcneenlcbjicnaaDoor
