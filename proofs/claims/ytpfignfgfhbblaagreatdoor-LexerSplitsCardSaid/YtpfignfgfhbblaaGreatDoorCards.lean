/-
  DERIVED. GIVEN WITH THE SEED: THE CARDS: each row of YtpfignfgfhbblaaGreatDoorRows.lean that lists a variable, with what it lists TIED to the program's text (the seventh form; the later family's looks); each row that meets fmt, with fmt's text TOLD by the authors' own Lean function (tested against real Go, not proved from fmt's source: count such statements apart). THE CARD IS WHAT COUNTS. Prove the row's statement (the work); the ties are given (YtpfignfgfhbblaaGreatDoorTie.lean); close each card by the builder's one call (the guide's Derived/Test/ToyasCard.lean, 'card_holds'). Laid BY PROGRAM, IN A SANDBOX (cutbox-door.mjs). By AI agents, Wed Nov 11 2026. No macro, syntax, notation, axiom, sorry.
-/
import Derived.Test.YtpfignfgfhbblaaGreatDoorRows
import GoSem.ClaimSeven
namespace Go.Proofs.YtpfignfgfhbblaaGreatDoor
namespace Rows

/-- THE TIED CARD OF 'longstoplaw04.DatumTexts'. -/
def datumTextsCard : Claim7 := { stood := { row := datumTextsRow, standIns := [], harness := (true, "feaf21c062311904bfd92c7785647edaee1d9319c4fe03e55dc6c16d2606d535"), looks := true }, kinds := [], alts := [], laidByText := true, laidKinds := [.data, .data, .data, .data, .sentinel, .sentinel, .pinned], laidTests := true, laidLooks := .later }
def DatumTextsCardSaid : Prop := Claim7.holds Tryz.pinned (.plain (OpenSpec.ofChange datumTextsSpec)) datumTextsCard

/-- THE TIED CARD OF 'longstoplaw05.LexerSplits'. -/
def lexerSplitsCard : Claim7 := { stood := { row := lexerSplitsRow, standIns := [], harness := (true, "feaf21c062311904bfd92c7785647edaee1d9319c4fe03e55dc6c16d2606d535"), looks := true }, kinds := [], alts := [], laidByText := true, laidKinds := [.data, .data, .data, .data, .sentinel, .sentinel, .pinned], laidTests := true, laidLooks := .later }
def LexerSplitsCardSaid : Prop := Claim7.holds Tryz.pinned (.plain (OpenSpec.ofChange lexerSplitsSpec)) lexerSplitsCard

/-- THE TIED CARD OF 'longstoplaw05.LexerJoins'. -/
def lexerJoinsCard : Claim7 := { stood := { row := lexerJoinsRow, standIns := [], harness := (true, "feaf21c062311904bfd92c7785647edaee1d9319c4fe03e55dc6c16d2606d535"), looks := true }, kinds := [], alts := [], laidByText := true, laidKinds := [.data, .data, .data, .data, .sentinel, .sentinel, .pinned], laidTests := true, laidLooks := .later }
def LexerJoinsCardSaid : Prop := Claim7.holds Tryz.pinned (.plain (OpenSpec.ofChange lexerJoinsSpec)) lexerJoinsCard

/-- THE TIED CARD OF 'longstoplaw05.LexerBack'. -/
def lexerBackCard : Claim7 := { stood := { row := lexerBackRow, standIns := [], harness := (true, "feaf21c062311904bfd92c7785647edaee1d9319c4fe03e55dc6c16d2606d535"), looks := true }, kinds := [], alts := [], laidByText := true, laidKinds := [.data, .data, .data, .data, .sentinel, .sentinel, .pinned], laidTests := true, laidLooks := .later }
def LexerBackCardSaid : Prop := Claim7.holds Tryz.pinned (.plain (OpenSpec.ofChange lexerBackSpec)) lexerBackCard

/-- THE TIED CARD OF 'longstoplaw05.LexerAll'. -/
def lexerAllCard : Claim7 := { stood := { row := lexerAllRow, standIns := [], harness := (true, "feaf21c062311904bfd92c7785647edaee1d9319c4fe03e55dc6c16d2606d535"), looks := true }, kinds := [], alts := [], laidByText := true, laidKinds := [.data, .data, .data, .data, .sentinel, .sentinel, .pinned], laidTests := true, laidLooks := .later }
def LexerAllCardSaid : Prop := Claim7.holds Tryz.pinned (.plain (OpenSpec.ofChange lexerAllSpec)) lexerAllCard

/-- THE TIED CARD OF 'longstoplaw05.LexerBlanks'. -/
def lexerBlanksCard : Claim7 := { stood := { row := lexerBlanksRow, standIns := [], harness := (true, "feaf21c062311904bfd92c7785647edaee1d9319c4fe03e55dc6c16d2606d535"), looks := true }, kinds := [], alts := [], laidByText := true, laidKinds := [.data, .data, .data, .data, .sentinel, .sentinel, .pinned], laidTests := true, laidLooks := .later }
def LexerBlanksCardSaid : Prop := Claim7.holds Tryz.pinned (.plain (OpenSpec.ofChange lexerBlanksSpec)) lexerBlanksCard

/-- THE TIED CARD OF 'longstoplaw05.LexerTwo'. -/
def lexerTwoCard : Claim7 := { stood := { row := lexerTwoRow, standIns := [], harness := (true, "feaf21c062311904bfd92c7785647edaee1d9319c4fe03e55dc6c16d2606d535"), looks := true }, kinds := [], alts := [], laidByText := true, laidKinds := [.data, .data, .data, .data, .sentinel, .sentinel, .pinned], laidTests := true, laidLooks := .later }
def LexerTwoCardSaid : Prop := Claim7.holds Tryz.pinned (.plain (OpenSpec.ofChange lexerTwoSpec)) lexerTwoCard

/-- THE TIED CARD OF 'longstoplaw04.DatumBack'. -/
def datumBackCard : Claim7 := { stood := { row := datumBackRow, standIns := [], harness := (true, "feaf21c062311904bfd92c7785647edaee1d9319c4fe03e55dc6c16d2606d535"), looks := true }, kinds := [], alts := [], laidByText := true, laidKinds := [.data, .data, .data, .data, .sentinel, .sentinel, .pinned], laidTests := true, laidLooks := .later }
def DatumBackCardSaid : Prop := Claim7.holds Tryz.pinned (.plain (OpenSpec.ofChange datumBackSpec)) datumBackCard

/-- THE TIED CARD OF 'longstoplaw04.DatumKeys'. -/
def datumKeysCard : Claim7 := { stood := { row := datumKeysRow, standIns := [], harness := (true, "feaf21c062311904bfd92c7785647edaee1d9319c4fe03e55dc6c16d2606d535"), looks := true }, kinds := [], alts := [], laidByText := true, laidKinds := [.data, .data, .data, .data, .sentinel, .sentinel, .data, .pinned], laidTests := true, laidLooks := .later }
def DatumKeysCardSaid : Prop := Claim7.holds Tryz.pinned (.plain (OpenSpec.ofChange datumKeysSpec)) datumKeysCard

/-- THE TIED CARD OF 'longstoplaw04.DatumBytes'. -/
def datumBytesCard : Claim7 := { stood := { row := datumBytesRow, standIns := [], harness := (true, "feaf21c062311904bfd92c7785647edaee1d9319c4fe03e55dc6c16d2606d535"), looks := true }, kinds := [], alts := [], laidByText := true, laidKinds := [.data, .data, .data, .data, .sentinel, .sentinel, .pinned], laidTests := true, laidLooks := .later }
def DatumBytesCardSaid : Prop := Claim7.holds Tryz.pinned (.plain (OpenSpec.ofChange datumBytesSpec)) datumBytesCard

/-- THE SECOND FORM's CARD OF 'longstoplaw04.DatumTexts'. -/
def datumTextsUptoCard : Claim7 := { stood := { row := datumTextsUptoRow, standIns := [], harness := (true, "feaf21c062311904bfd92c7785647edaee1d9319c4fe03e55dc6c16d2606d535"), looks := true }, kinds := [], alts := [], laidByText := true, laidKinds := [.data, .data, .data, .data, .sentinel, .sentinel, .pinned], laidTests := true, laidLooks := .later }
def DatumTextsUptoCardSaid : Prop := Claim7.holds Tryz.pinned (.plain (OpenSpec.upto datumTextsSpec)) datumTextsUptoCard

/-- THE SECOND FORM's CARD OF 'longstoplaw05.LexerSplits'. -/
def lexerSplitsUptoCard : Claim7 := { stood := { row := lexerSplitsUptoRow, standIns := [], harness := (true, "feaf21c062311904bfd92c7785647edaee1d9319c4fe03e55dc6c16d2606d535"), looks := true }, kinds := [], alts := [], laidByText := true, laidKinds := [.data, .data, .data, .data, .sentinel, .sentinel, .pinned], laidTests := true, laidLooks := .later }
def LexerSplitsUptoCardSaid : Prop := Claim7.holds Tryz.pinned (.plain (OpenSpec.upto lexerSplitsSpec)) lexerSplitsUptoCard

/-- THE SECOND FORM's CARD OF 'longstoplaw05.LexerJoins'. -/
def lexerJoinsUptoCard : Claim7 := { stood := { row := lexerJoinsUptoRow, standIns := [], harness := (true, "feaf21c062311904bfd92c7785647edaee1d9319c4fe03e55dc6c16d2606d535"), looks := true }, kinds := [], alts := [], laidByText := true, laidKinds := [.data, .data, .data, .data, .sentinel, .sentinel, .pinned], laidTests := true, laidLooks := .later }
def LexerJoinsUptoCardSaid : Prop := Claim7.holds Tryz.pinned (.plain (OpenSpec.upto lexerJoinsSpec)) lexerJoinsUptoCard

/-- THE SECOND FORM's CARD OF 'longstoplaw05.LexerBack'. -/
def lexerBackUptoCard : Claim7 := { stood := { row := lexerBackUptoRow, standIns := [], harness := (true, "feaf21c062311904bfd92c7785647edaee1d9319c4fe03e55dc6c16d2606d535"), looks := true }, kinds := [], alts := [], laidByText := true, laidKinds := [.data, .data, .data, .data, .sentinel, .sentinel, .pinned], laidTests := true, laidLooks := .later }
def LexerBackUptoCardSaid : Prop := Claim7.holds Tryz.pinned (.plain (OpenSpec.upto lexerBackSpec)) lexerBackUptoCard

/-- THE SECOND FORM's CARD OF 'longstoplaw05.LexerAll'. -/
def lexerAllUptoCard : Claim7 := { stood := { row := lexerAllUptoRow, standIns := [], harness := (true, "feaf21c062311904bfd92c7785647edaee1d9319c4fe03e55dc6c16d2606d535"), looks := true }, kinds := [], alts := [], laidByText := true, laidKinds := [.data, .data, .data, .data, .sentinel, .sentinel, .pinned], laidTests := true, laidLooks := .later }
def LexerAllUptoCardSaid : Prop := Claim7.holds Tryz.pinned (.plain (OpenSpec.upto lexerAllSpec)) lexerAllUptoCard

/-- THE SECOND FORM's CARD OF 'longstoplaw05.LexerBlanks'. -/
def lexerBlanksUptoCard : Claim7 := { stood := { row := lexerBlanksUptoRow, standIns := [], harness := (true, "feaf21c062311904bfd92c7785647edaee1d9319c4fe03e55dc6c16d2606d535"), looks := true }, kinds := [], alts := [], laidByText := true, laidKinds := [.data, .data, .data, .data, .sentinel, .sentinel, .pinned], laidTests := true, laidLooks := .later }
def LexerBlanksUptoCardSaid : Prop := Claim7.holds Tryz.pinned (.plain (OpenSpec.upto lexerBlanksSpec)) lexerBlanksUptoCard

/-- THE SECOND FORM's CARD OF 'longstoplaw05.LexerTwo'. -/
def lexerTwoUptoCard : Claim7 := { stood := { row := lexerTwoUptoRow, standIns := [], harness := (true, "feaf21c062311904bfd92c7785647edaee1d9319c4fe03e55dc6c16d2606d535"), looks := true }, kinds := [], alts := [], laidByText := true, laidKinds := [.data, .data, .data, .data, .sentinel, .sentinel, .pinned], laidTests := true, laidLooks := .later }
def LexerTwoUptoCardSaid : Prop := Claim7.holds Tryz.pinned (.plain (OpenSpec.upto lexerTwoSpec)) lexerTwoUptoCard

/-- THE SECOND FORM's CARD OF 'longstoplaw04.DatumBack'. -/
def datumBackUptoCard : Claim7 := { stood := { row := datumBackUptoRow, standIns := [], harness := (true, "feaf21c062311904bfd92c7785647edaee1d9319c4fe03e55dc6c16d2606d535"), looks := true }, kinds := [], alts := [], laidByText := true, laidKinds := [.data, .data, .data, .data, .sentinel, .sentinel, .pinned], laidTests := true, laidLooks := .later }
def DatumBackUptoCardSaid : Prop := Claim7.holds Tryz.pinned (.plain (OpenSpec.upto datumBackSpec)) datumBackUptoCard

/-- THE SECOND FORM's CARD OF 'longstoplaw04.DatumKeys'. -/
def datumKeysUptoCard : Claim7 := { stood := { row := datumKeysUptoRow, standIns := [], harness := (true, "feaf21c062311904bfd92c7785647edaee1d9319c4fe03e55dc6c16d2606d535"), looks := true }, kinds := [], alts := [], laidByText := true, laidKinds := [.data, .data, .data, .data, .sentinel, .sentinel, .data, .pinned], laidTests := true, laidLooks := .later }
def DatumKeysUptoCardSaid : Prop := Claim7.holds Tryz.pinned (.plain (OpenSpec.upto datumKeysSpec)) datumKeysUptoCard

/-- THE SECOND FORM's CARD OF 'longstoplaw04.DatumBytes'. -/
def datumBytesUptoCard : Claim7 := { stood := { row := datumBytesUptoRow, standIns := [], harness := (true, "feaf21c062311904bfd92c7785647edaee1d9319c4fe03e55dc6c16d2606d535"), looks := true }, kinds := [], alts := [], laidByText := true, laidKinds := [.data, .data, .data, .data, .sentinel, .sentinel, .pinned], laidTests := true, laidLooks := .later }
def DatumBytesUptoCardSaid : Prop := Claim7.holds Tryz.pinned (.plain (OpenSpec.upto datumBytesSpec)) datumBytesUptoCard
end Rows
end Go.Proofs.YtpfignfgfhbblaaGreatDoor
