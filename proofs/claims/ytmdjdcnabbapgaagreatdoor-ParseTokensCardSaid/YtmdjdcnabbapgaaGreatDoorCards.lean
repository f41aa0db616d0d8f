/-
  DERIVED. GIVEN WITH THE SEED: THE CARDS: each row of YtmdjdcnabbapgaaGreatDoorRows.lean that lists a variable, with what it lists TIED to the program's text (the seventh form; the later family's looks); each row that meets fmt, with fmt's text TOLD by the authors' own Lean function (tested against real Go, not proved from fmt's source: count such statements apart). THE CARD IS WHAT COUNTS. Prove the row's statement (the work); the ties are given (YtmdjdcnabbapgaaGreatDoorTie.lean); close each card by the builder's one call (the guide's Derived/Test/ToyasCard.lean, 'card_holds'). Laid BY PROGRAM, IN A SANDBOX (cutbox-door.mjs). By AI agents, Wed Nov 11 2026. No macro, syntax, notation, axiom, sorry.
-/
import Derived.Test.YtmdjdcnabbapgaaGreatDoorRows
import GoSem.ClaimSeven
namespace Go.Proofs.YtmdjdcnabbapgaaGreatDoor
namespace Rows

/-- THE TIED CARD OF 'waferlaw05.ParseExps'. -/
def parseExpsCard : Claim7 := { stood := { row := parseExpsRow, standIns := [], harness := (true, "afa01a25772729615b20a0df5273caa784f5173eebf9cfe4c52fa4c58ff73345"), looks := true }, kinds := [], alts := [], laidByText := true, laidKinds := [.data, .data, .data, .sentinel, .sentinel], laidTests := true, laidLooks := .later }
def ParseExpsCardSaid : Prop := Claim7.holds Tryz.pinned (.plain (OpenSpec.ofChange parseExpsSpec)) parseExpsCard

/-- THE TIED CARD OF 'waferlaw05.ParseTys'. -/
def parseTysCard : Claim7 := { stood := { row := parseTysRow, standIns := [], harness := (true, "afa01a25772729615b20a0df5273caa784f5173eebf9cfe4c52fa4c58ff73345"), looks := true }, kinds := [], alts := [], laidByText := true, laidKinds := [.data, .data, .data, .sentinel, .sentinel], laidTests := true, laidLooks := .later }
def ParseTysCardSaid : Prop := Claim7.holds Tryz.pinned (.plain (OpenSpec.ofChange parseTysSpec)) parseTysCard

/-- THE TIED CARD OF 'waferlaw05.ParseParens'. -/
def parseParensCard : Claim7 := { stood := { row := parseParensRow, standIns := [], harness := (true, "afa01a25772729615b20a0df5273caa784f5173eebf9cfe4c52fa4c58ff73345"), looks := true }, kinds := [], alts := [], laidByText := true, laidKinds := [.data, .data, .data, .sentinel, .sentinel], laidTests := true, laidLooks := .later }
def ParseParensCardSaid : Prop := Claim7.holds Tryz.pinned (.plain (OpenSpec.ofChange parseParensSpec)) parseParensCard

/-- THE TIED CARD OF 'waferlaw05.ParsePairs'. -/
def parsePairsCard : Claim7 := { stood := { row := parsePairsRow, standIns := [], harness := (true, "afa01a25772729615b20a0df5273caa784f5173eebf9cfe4c52fa4c58ff73345"), looks := true }, kinds := [], alts := [], laidByText := true, laidKinds := [.data, .data, .data, .sentinel, .sentinel], laidTests := true, laidLooks := .later }
def ParsePairsCardSaid : Prop := Claim7.holds Tryz.pinned (.plain (OpenSpec.ofChange parsePairsSpec)) parsePairsCard

/-- THE TIED CARD OF 'waferlaw05.ParsePats'. -/
def parsePatsCard : Claim7 := { stood := { row := parsePatsRow, standIns := [], harness := (true, "afa01a25772729615b20a0df5273caa784f5173eebf9cfe4c52fa4c58ff73345"), looks := true }, kinds := [], alts := [], laidByText := true, laidKinds := [.data, .data, .data, .sentinel, .sentinel], laidTests := true, laidLooks := .later }
def ParsePatsCardSaid : Prop := Claim7.holds Tryz.pinned (.plain (OpenSpec.ofChange parsePatsSpec)) parsePatsCard

/-- THE TIED CARD OF 'waferlaw05.ParseTokens'. -/
def parseTokensCard : Claim7 := { stood := { row := parseTokensRow, standIns := [], harness := (true, "afa01a25772729615b20a0df5273caa784f5173eebf9cfe4c52fa4c58ff73345"), looks := true }, kinds := [], alts := [], laidByText := true, laidKinds := [.data, .data, .data, .sentinel, .sentinel], laidTests := true, laidLooks := .later }
def ParseTokensCardSaid : Prop := Claim7.holds Tryz.pinned (.plain (OpenSpec.ofChange parseTokensSpec)) parseTokensCard

/-- THE SECOND FORM's CARD OF 'waferlaw05.ParseExps'. -/
def parseExpsUptoCard : Claim7 := { stood := { row := parseExpsUptoRow, standIns := [], harness := (true, "afa01a25772729615b20a0df5273caa784f5173eebf9cfe4c52fa4c58ff73345"), looks := true }, kinds := [], alts := [], laidByText := true, laidKinds := [.data, .data, .data, .sentinel, .sentinel], laidTests := true, laidLooks := .later }
def ParseExpsUptoCardSaid : Prop := Claim7.holds Tryz.pinned (.plain (OpenSpec.upto parseExpsSpec)) parseExpsUptoCard

/-- THE SECOND FORM's CARD OF 'waferlaw05.ParseTys'. -/
def parseTysUptoCard : Claim7 := { stood := { row := parseTysUptoRow, standIns := [], harness := (true, "afa01a25772729615b20a0df5273caa784f5173eebf9cfe4c52fa4c58ff73345"), looks := true }, kinds := [], alts := [], laidByText := true, laidKinds := [.data, .data, .data, .sentinel, .sentinel], laidTests := true, laidLooks := .later }
def ParseTysUptoCardSaid : Prop := Claim7.holds Tryz.pinned (.plain (OpenSpec.upto parseTysSpec)) parseTysUptoCard

/-- THE SECOND FORM's CARD OF 'waferlaw05.ParseParens'. -/
def parseParensUptoCard : Claim7 := { stood := { row := parseParensUptoRow, standIns := [], harness := (true, "afa01a25772729615b20a0df5273caa784f5173eebf9cfe4c52fa4c58ff73345"), looks := true }, kinds := [], alts := [], laidByText := true, laidKinds := [.data, .data, .data, .sentinel, .sentinel], laidTests := true, laidLooks := .later }
def ParseParensUptoCardSaid : Prop := Claim7.holds Tryz.pinned (.plain (OpenSpec.upto parseParensSpec)) parseParensUptoCard

/-- THE SECOND FORM's CARD OF 'waferlaw05.ParsePairs'. -/
def parsePairsUptoCard : Claim7 := { stood := { row := parsePairsUptoRow, standIns := [], harness := (true, "afa01a25772729615b20a0df5273caa784f5173eebf9cfe4c52fa4c58ff73345"), looks := true }, kinds := [], alts := [], laidByText := true, laidKinds := [.data, .data, .data, .sentinel, .sentinel], laidTests := true, laidLooks := .later }
def ParsePairsUptoCardSaid : Prop := Claim7.holds Tryz.pinned (.plain (OpenSpec.upto parsePairsSpec)) parsePairsUptoCard

/-- THE SECOND FORM's CARD OF 'waferlaw05.ParsePats'. -/
def parsePatsUptoCard : Claim7 := { stood := { row := parsePatsUptoRow, standIns := [], harness := (true, "afa01a25772729615b20a0df5273caa784f5173eebf9cfe4c52fa4c58ff73345"), looks := true }, kinds := [], alts := [], laidByText := true, laidKinds := [.data, .data, .data, .sentinel, .sentinel], laidTests := true, laidLooks := .later }
def ParsePatsUptoCardSaid : Prop := Claim7.holds Tryz.pinned (.plain (OpenSpec.upto parsePatsSpec)) parsePatsUptoCard

/-- THE SECOND FORM's CARD OF 'waferlaw05.ParseTokens'. -/
def parseTokensUptoCard : Claim7 := { stood := { row := parseTokensUptoRow, standIns := [], harness := (true, "afa01a25772729615b20a0df5273caa784f5173eebf9cfe4c52fa4c58ff73345"), looks := true }, kinds := [], alts := [], laidByText := true, laidKinds := [.data, .data, .data, .sentinel, .sentinel], laidTests := true, laidLooks := .later }
def ParseTokensUptoCardSaid : Prop := Claim7.holds Tryz.pinned (.plain (OpenSpec.upto parseTokensSpec)) parseTokensUptoCard
end Rows
end Go.Proofs.YtmdjdcnabbapgaaGreatDoor
