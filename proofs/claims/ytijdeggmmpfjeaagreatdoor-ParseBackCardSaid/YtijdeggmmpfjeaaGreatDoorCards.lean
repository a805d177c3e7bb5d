/-
  DERIVED. GIVEN WITH THE SEED: THE CARDS: each row of YtijdeggmmpfjeaaGreatDoorRows.lean that lists a variable, with what it lists TIED to the program's text (the seventh form; the later family's looks); each row that meets fmt, with fmt's text TOLD by the authors' own Lean function (tested against real Go, not proved from fmt's source: count such statements apart). THE CARD IS WHAT COUNTS. Prove the row's statement (the work); the ties are given (YtijdeggmmpfjeaaGreatDoorTie.lean); close each card by the builder's one call (the guide's Derived/Test/ToyasCard.lean, 'card_holds'). Laid BY PROGRAM, IN A SANDBOX (cutbox-door.mjs). By AI agents, Wed Nov 11 2026. No macro, syntax, notation, axiom, sorry.
-/
import Derived.Test.YtijdeggmmpfjeaaGreatDoorRows
import GoSem.ClaimSeven
namespace Go.Proofs.YtijdeggmmpfjeaaGreatDoor
namespace Rows

/-- THE TIED CARD OF 'dripstonelaw02.ParseReads'. -/
def parseReadsCard : Claim7 := { stood := { row := parseReadsRow, standIns := [], harness := (true, "efc997d672f5e45236f5179d2a8d5949e5cbff75aa412c2b25375e5c75de86a5"), looks := true }, kinds := [], alts := [], laidByText := true, laidKinds := [.data, .data, .data, .data, .sentinel, .sentinel, .pinned], laidTests := true, laidLooks := .later }
def ParseReadsCardSaid : Prop := Claim7.holds Tryz.pinned (.plain (OpenSpec.ofChange parseReadsSpec)) parseReadsCard

/-- THE TIED CARD OF 'dripstonelaw02.ParseChecks'. -/
def parseChecksCard : Claim7 := { stood := { row := parseChecksRow, standIns := [], harness := (true, "efc997d672f5e45236f5179d2a8d5949e5cbff75aa412c2b25375e5c75de86a5"), looks := true }, kinds := [], alts := [], laidByText := true, laidKinds := [.data, .data, .data, .data, .sentinel, .sentinel, .pinned], laidTests := true, laidLooks := .later }
def ParseChecksCardSaid : Prop := Claim7.holds Tryz.pinned (.plain (OpenSpec.ofChange parseChecksSpec)) parseChecksCard

/-- THE TIED CARD OF 'dripstonelaw02.ParsePrints'. -/
def parsePrintsCard : Claim7 := { stood := { row := parsePrintsRow, standIns := [], harness := (true, "efc997d672f5e45236f5179d2a8d5949e5cbff75aa412c2b25375e5c75de86a5"), looks := true }, kinds := [], alts := [], laidByText := true, laidKinds := [.data, .data, .data, .data, .sentinel, .sentinel, .pinned], laidTests := true, laidLooks := .later }
def ParsePrintsCardSaid : Prop := Claim7.holds Tryz.pinned (.plain (OpenSpec.ofChange parsePrintsSpec)) parsePrintsCard

/-- THE TIED CARD OF 'dripstonelaw02.ParseRecovers'. -/
def parseRecoversCard : Claim7 := { stood := { row := parseRecoversRow, standIns := [], harness := (true, "efc997d672f5e45236f5179d2a8d5949e5cbff75aa412c2b25375e5c75de86a5"), looks := true }, kinds := [], alts := [], laidByText := true, laidKinds := [.data, .data, .data, .data, .sentinel, .sentinel, .pinned], laidTests := true, laidLooks := .later }
def ParseRecoversCardSaid : Prop := Claim7.holds Tryz.pinned (.plain (OpenSpec.ofChange parseRecoversSpec)) parseRecoversCard

/-- THE TIED CARD OF 'dripstonelaw02.ParseWhole'. -/
def parseWholeCard : Claim7 := { stood := { row := parseWholeRow, standIns := [], harness := (true, "efc997d672f5e45236f5179d2a8d5949e5cbff75aa412c2b25375e5c75de86a5"), looks := true }, kinds := [], alts := [], laidByText := true, laidKinds := [.data, .data, .data, .data, .sentinel, .sentinel, .pinned], laidTests := true, laidLooks := .later }
def ParseWholeCardSaid : Prop := Claim7.holds Tryz.pinned (.plain (OpenSpec.ofChange parseWholeSpec)) parseWholeCard

/-- THE TIED CARD OF 'dripstonelaw02.ParseRanges'. -/
def parseRangesCard : Claim7 := { stood := { row := parseRangesRow, standIns := [], harness := (true, "efc997d672f5e45236f5179d2a8d5949e5cbff75aa412c2b25375e5c75de86a5"), looks := true }, kinds := [], alts := [], laidByText := true, laidKinds := [.data, .data, .data, .data, .sentinel, .sentinel, .pinned], laidTests := true, laidLooks := .later }
def ParseRangesCardSaid : Prop := Claim7.holds Tryz.pinned (.plain (OpenSpec.ofChange parseRangesSpec)) parseRangesCard

/-- THE TIED CARD OF 'dripstonelaw02.ParseLost'. -/
def parseLostCard : Claim7 := { stood := { row := parseLostRow, standIns := [], harness := (true, "efc997d672f5e45236f5179d2a8d5949e5cbff75aa412c2b25375e5c75de86a5"), looks := true }, kinds := [], alts := [], laidByText := true, laidKinds := [.data, .data, .data, .data, .sentinel, .sentinel, .pinned], laidTests := true, laidLooks := .later }
def ParseLostCardSaid : Prop := Claim7.holds Tryz.pinned (.plain (OpenSpec.ofChange parseLostSpec)) parseLostCard

/-- THE TIED CARD OF 'dripstonelaw02.ParseNested'. -/
def parseNestedCard : Claim7 := { stood := { row := parseNestedRow, standIns := [], harness := (true, "efc997d672f5e45236f5179d2a8d5949e5cbff75aa412c2b25375e5c75de86a5"), looks := true }, kinds := [], alts := [], laidByText := true, laidKinds := [.data, .data, .data, .data, .sentinel, .sentinel, .pinned], laidTests := true, laidLooks := .later }
def ParseNestedCardSaid : Prop := Claim7.holds Tryz.pinned (.plain (OpenSpec.ofChange parseNestedSpec)) parseNestedCard

/-- THE TIED CARD OF 'dripstonelaw02.ParseShown'. -/
def parseShownCard : Claim7 := { stood := { row := parseShownRow, standIns := [], harness := (true, "efc997d672f5e45236f5179d2a8d5949e5cbff75aa412c2b25375e5c75de86a5"), looks := true }, kinds := [], alts := [], laidByText := true, laidKinds := [.data, .data, .data, .data, .sentinel, .sentinel, .pinned], laidTests := true, laidLooks := .later }
def ParseShownCardSaid : Prop := Claim7.holds Tryz.pinned (.plain (OpenSpec.ofChange parseShownSpec)) parseShownCard

/-- THE TIED CARD OF 'dripstonelaw02.ParseSames'. -/
def parseSamesCard : Claim7 := { stood := { row := parseSamesRow, standIns := [], harness := (true, "efc997d672f5e45236f5179d2a8d5949e5cbff75aa412c2b25375e5c75de86a5"), looks := true }, kinds := [], alts := [], laidByText := true, laidKinds := [.data, .data, .data, .data, .sentinel, .sentinel, .pinned], laidTests := true, laidLooks := .later }
def ParseSamesCardSaid : Prop := Claim7.holds Tryz.pinned (.plain (OpenSpec.ofChange parseSamesSpec)) parseSamesCard

/-- THE TIED CARD OF 'dripstonelaw02.ParsePrinted'. -/
def parsePrintedCard : Claim7 := { stood := { row := parsePrintedRow, standIns := [], harness := (true, "efc997d672f5e45236f5179d2a8d5949e5cbff75aa412c2b25375e5c75de86a5"), looks := true }, kinds := [], alts := [], laidByText := true, laidKinds := [.data, .data, .data, .data, .sentinel, .sentinel, .pinned], laidTests := true, laidLooks := .later }
def ParsePrintedCardSaid : Prop := Claim7.holds Tryz.pinned (.plain (OpenSpec.ofChange parsePrintedSpec)) parsePrintedCard

/-- THE TIED CARD OF 'dripstonelaw02.ParseBare'. -/
def parseBareCard : Claim7 := { stood := { row := parseBareRow, standIns := [], harness := (true, "efc997d672f5e45236f5179d2a8d5949e5cbff75aa412c2b25375e5c75de86a5"), looks := true }, kinds := [], alts := [], laidByText := true, laidKinds := [.data, .data, .data, .data, .sentinel, .sentinel, .pinned], laidTests := true, laidLooks := .later }
def ParseBareCardSaid : Prop := Claim7.holds Tryz.pinned (.plain (OpenSpec.ofChange parseBareSpec)) parseBareCard

/-- THE TIED CARD OF 'dripstonelaw02.ParseKins'. -/
def parseKinsCard : Claim7 := { stood := { row := parseKinsRow, standIns := [], harness := (true, "efc997d672f5e45236f5179d2a8d5949e5cbff75aa412c2b25375e5c75de86a5"), looks := true }, kinds := [], alts := [], laidByText := true, laidKinds := [.data, .data, .data, .data, .sentinel, .sentinel, .pinned], laidTests := true, laidLooks := .later }
def ParseKinsCardSaid : Prop := Claim7.holds Tryz.pinned (.plain (OpenSpec.ofChange parseKinsSpec)) parseKinsCard

/-- THE TIED CARD OF 'dripstonelaw02.ParseFound'. -/
def parseFoundCard : Claim7 := { stood := { row := parseFoundRow, standIns := [], harness := (true, "efc997d672f5e45236f5179d2a8d5949e5cbff75aa412c2b25375e5c75de86a5"), looks := true }, kinds := [], alts := [], laidByText := true, laidKinds := [.data, .data, .data, .data, .sentinel, .sentinel, .pinned], laidTests := true, laidLooks := .later }
def ParseFoundCardSaid : Prop := Claim7.holds Tryz.pinned (.plain (OpenSpec.ofChange parseFoundSpec)) parseFoundCard

/-- THE TIED CARD OF 'dripstonelaw02.ParseSplices'. -/
def parseSplicesCard : Claim7 := { stood := { row := parseSplicesRow, standIns := [], harness := (true, "efc997d672f5e45236f5179d2a8d5949e5cbff75aa412c2b25375e5c75de86a5"), looks := true }, kinds := [], alts := [], laidByText := true, laidKinds := [.data, .data, .data, .data, .sentinel, .sentinel, .pinned], laidTests := true, laidLooks := .later }
def ParseSplicesCardSaid : Prop := Claim7.holds Tryz.pinned (.plain (OpenSpec.ofChange parseSplicesSpec)) parseSplicesCard

/-- THE TIED CARD OF 'dripstonelaw02.ParseBack'. -/
def parseBackCard : Claim7 := { stood := { row := parseBackRow, standIns := [], harness := (true, "efc997d672f5e45236f5179d2a8d5949e5cbff75aa412c2b25375e5c75de86a5"), looks := true }, kinds := [], alts := [], laidByText := true, laidKinds := [.data, .data, .data, .data, .sentinel, .sentinel, .pinned], laidTests := true, laidLooks := .later }
def ParseBackCardSaid : Prop := Claim7.holds Tryz.pinned (.plain (OpenSpec.ofChange parseBackSpec)) parseBackCard

/-- THE SECOND FORM's CARD OF 'dripstonelaw02.ParseReads'. -/
def parseReadsUptoCard : Claim7 := { stood := { row := parseReadsUptoRow, standIns := [], harness := (true, "efc997d672f5e45236f5179d2a8d5949e5cbff75aa412c2b25375e5c75de86a5"), looks := true }, kinds := [], alts := [], laidByText := true, laidKinds := [.data, .data, .data, .data, .sentinel, .sentinel, .pinned], laidTests := true, laidLooks := .later }
def ParseReadsUptoCardSaid : Prop := Claim7.holds Tryz.pinned (.plain (OpenSpec.upto parseReadsSpec)) parseReadsUptoCard

/-- THE SECOND FORM's CARD OF 'dripstonelaw02.ParseChecks'. -/
def parseChecksUptoCard : Claim7 := { stood := { row := parseChecksUptoRow, standIns := [], harness := (true, "efc997d672f5e45236f5179d2a8d5949e5cbff75aa412c2b25375e5c75de86a5"), looks := true }, kinds := [], alts := [], laidByText := true, laidKinds := [.data, .data, .data, .data, .sentinel, .sentinel, .pinned], laidTests := true, laidLooks := .later }
def ParseChecksUptoCardSaid : Prop := Claim7.holds Tryz.pinned (.plain (OpenSpec.upto parseChecksSpec)) parseChecksUptoCard

/-- THE SECOND FORM's CARD OF 'dripstonelaw02.ParsePrints'. -/
def parsePrintsUptoCard : Claim7 := { stood := { row := parsePrintsUptoRow, standIns := [], harness := (true, "efc997d672f5e45236f5179d2a8d5949e5cbff75aa412c2b25375e5c75de86a5"), looks := true }, kinds := [], alts := [], laidByText := true, laidKinds := [.data, .data, .data, .data, .sentinel, .sentinel, .pinned], laidTests := true, laidLooks := .later }
def ParsePrintsUptoCardSaid : Prop := Claim7.holds Tryz.pinned (.plain (OpenSpec.upto parsePrintsSpec)) parsePrintsUptoCard

/-- THE SECOND FORM's CARD OF 'dripstonelaw02.ParseRecovers'. -/
def parseRecoversUptoCard : Claim7 := { stood := { row := parseRecoversUptoRow, standIns := [], harness := (true, "efc997d672f5e45236f5179d2a8d5949e5cbff75aa412c2b25375e5c75de86a5"), looks := true }, kinds := [], alts := [], laidByText := true, laidKinds := [.data, .data, .data, .data, .sentinel, .sentinel, .pinned], laidTests := true, laidLooks := .later }
def ParseRecoversUptoCardSaid : Prop := Claim7.holds Tryz.pinned (.plain (OpenSpec.upto parseRecoversSpec)) parseRecoversUptoCard

/-- THE SECOND FORM's CARD OF 'dripstonelaw02.ParseWhole'. -/
def parseWholeUptoCard : Claim7 := { stood := { row := parseWholeUptoRow, standIns := [], harness := (true, "efc997d672f5e45236f5179d2a8d5949e5cbff75aa412c2b25375e5c75de86a5"), looks := true }, kinds := [], alts := [], laidByText := true, laidKinds := [.data, .data, .data, .data, .sentinel, .sentinel, .pinned], laidTests := true, laidLooks := .later }
def ParseWholeUptoCardSaid : Prop := Claim7.holds Tryz.pinned (.plain (OpenSpec.upto parseWholeSpec)) parseWholeUptoCard

/-- THE SECOND FORM's CARD OF 'dripstonelaw02.ParseRanges'. -/
def parseRangesUptoCard : Claim7 := { stood := { row := parseRangesUptoRow, standIns := [], harness := (true, "efc997d672f5e45236f5179d2a8d5949e5cbff75aa412c2b25375e5c75de86a5"), looks := true }, kinds := [], alts := [], laidByText := true, laidKinds := [.data, .data, .data, .data, .sentinel, .sentinel, .pinned], laidTests := true, laidLooks := .later }
def ParseRangesUptoCardSaid : Prop := Claim7.holds Tryz.pinned (.plain (OpenSpec.upto parseRangesSpec)) parseRangesUptoCard

/-- THE SECOND FORM's CARD OF 'dripstonelaw02.ParseLost'. -/
def parseLostUptoCard : Claim7 := { stood := { row := parseLostUptoRow, standIns := [], harness := (true, "efc997d672f5e45236f5179d2a8d5949e5cbff75aa412c2b25375e5c75de86a5"), looks := true }, kinds := [], alts := [], laidByText := true, laidKinds := [.data, .data, .data, .data, .sentinel, .sentinel, .pinned], laidTests := true, laidLooks := .later }
def ParseLostUptoCardSaid : Prop := Claim7.holds Tryz.pinned (.plain (OpenSpec.upto parseLostSpec)) parseLostUptoCard

/-- THE SECOND FORM's CARD OF 'dripstonelaw02.ParseNested'. -/
def parseNestedUptoCard : Claim7 := { stood := { row := parseNestedUptoRow, standIns := [], harness := (true, "efc997d672f5e45236f5179d2a8d5949e5cbff75aa412c2b25375e5c75de86a5"), looks := true }, kinds := [], alts := [], laidByText := true, laidKinds := [.data, .data, .data, .data, .sentinel, .sentinel, .pinned], laidTests := true, laidLooks := .later }
def ParseNestedUptoCardSaid : Prop := Claim7.holds Tryz.pinned (.plain (OpenSpec.upto parseNestedSpec)) parseNestedUptoCard

/-- THE SECOND FORM's CARD OF 'dripstonelaw02.ParseShown'. -/
def parseShownUptoCard : Claim7 := { stood := { row := parseShownUptoRow, standIns := [], harness := (true, "efc997d672f5e45236f5179d2a8d5949e5cbff75aa412c2b25375e5c75de86a5"), looks := true }, kinds := [], alts := [], laidByText := true, laidKinds := [.data, .data, .data, .data, .sentinel, .sentinel, .pinned], laidTests := true, laidLooks := .later }
def ParseShownUptoCardSaid : Prop := Claim7.holds Tryz.pinned (.plain (OpenSpec.upto parseShownSpec)) parseShownUptoCard

/-- THE SECOND FORM's CARD OF 'dripstonelaw02.ParseSames'. -/
def parseSamesUptoCard : Claim7 := { stood := { row := parseSamesUptoRow, standIns := [], harness := (true, "efc997d672f5e45236f5179d2a8d5949e5cbff75aa412c2b25375e5c75de86a5"), looks := true }, kinds := [], alts := [], laidByText := true, laidKinds := [.data, .data, .data, .data, .sentinel, .sentinel, .pinned], laidTests := true, laidLooks := .later }
def ParseSamesUptoCardSaid : Prop := Claim7.holds Tryz.pinned (.plain (OpenSpec.upto parseSamesSpec)) parseSamesUptoCard

/-- THE SECOND FORM's CARD OF 'dripstonelaw02.ParsePrinted'. -/
def parsePrintedUptoCard : Claim7 := { stood := { row := parsePrintedUptoRow, standIns := [], harness := (true, "efc997d672f5e45236f5179d2a8d5949e5cbff75aa412c2b25375e5c75de86a5"), looks := true }, kinds := [], alts := [], laidByText := true, laidKinds := [.data, .data, .data, .data, .sentinel, .sentinel, .pinned], laidTests := true, laidLooks := .later }
def ParsePrintedUptoCardSaid : Prop := Claim7.holds Tryz.pinned (.plain (OpenSpec.upto parsePrintedSpec)) parsePrintedUptoCard

/-- THE SECOND FORM's CARD OF 'dripstonelaw02.ParseBare'. -/
def parseBareUptoCard : Claim7 := { stood := { row := parseBareUptoRow, standIns := [], harness := (true, "efc997d672f5e45236f5179d2a8d5949e5cbff75aa412c2b25375e5c75de86a5"), looks := true }, kinds := [], alts := [], laidByText := true, laidKinds := [.data, .data, .data, .data, .sentinel, .sentinel, .pinned], laidTests := true, laidLooks := .later }
def ParseBareUptoCardSaid : Prop := Claim7.holds Tryz.pinned (.plain (OpenSpec.upto parseBareSpec)) parseBareUptoCard

/-- THE SECOND FORM's CARD OF 'dripstonelaw02.ParseKins'. -/
def parseKinsUptoCard : Claim7 := { stood := { row := parseKinsUptoRow, standIns := [], harness := (true, "efc997d672f5e45236f5179d2a8d5949e5cbff75aa412c2b25375e5c75de86a5"), looks := true }, kinds := [], alts := [], laidByText := true, laidKinds := [.data, .data, .data, .data, .sentinel, .sentinel, .pinned], laidTests := true, laidLooks := .later }
def ParseKinsUptoCardSaid : Prop := Claim7.holds Tryz.pinned (.plain (OpenSpec.upto parseKinsSpec)) parseKinsUptoCard

/-- THE SECOND FORM's CARD OF 'dripstonelaw02.ParseFound'. -/
def parseFoundUptoCard : Claim7 := { stood := { row := parseFoundUptoRow, standIns := [], harness := (true, "efc997d672f5e45236f5179d2a8d5949e5cbff75aa412c2b25375e5c75de86a5"), looks := true }, kinds := [], alts := [], laidByText := true, laidKinds := [.data, .data, .data, .data, .sentinel, .sentinel, .pinned], laidTests := true, laidLooks := .later }
def ParseFoundUptoCardSaid : Prop := Claim7.holds Tryz.pinned (.plain (OpenSpec.upto parseFoundSpec)) parseFoundUptoCard

/-- THE SECOND FORM's CARD OF 'dripstonelaw02.ParseSplices'. -/
def parseSplicesUptoCard : Claim7 := { stood := { row := parseSplicesUptoRow, standIns := [], harness := (true, "efc997d672f5e45236f5179d2a8d5949e5cbff75aa412c2b25375e5c75de86a5"), looks := true }, kinds := [], alts := [], laidByText := true, laidKinds := [.data, .data, .data, .data, .sentinel, .sentinel, .pinned], laidTests := true, laidLooks := .later }
def ParseSplicesUptoCardSaid : Prop := Claim7.holds Tryz.pinned (.plain (OpenSpec.upto parseSplicesSpec)) parseSplicesUptoCard

/-- THE SECOND FORM's CARD OF 'dripstonelaw02.ParseBack'. -/
def parseBackUptoCard : Claim7 := { stood := { row := parseBackUptoRow, standIns := [], harness := (true, "efc997d672f5e45236f5179d2a8d5949e5cbff75aa412c2b25375e5c75de86a5"), looks := true }, kinds := [], alts := [], laidByText := true, laidKinds := [.data, .data, .data, .data, .sentinel, .sentinel, .pinned], laidTests := true, laidLooks := .later }
def ParseBackUptoCardSaid : Prop := Claim7.holds Tryz.pinned (.plain (OpenSpec.upto parseBackSpec)) parseBackUptoCard
end Rows
end Go.Proofs.YtijdeggmmpfjeaaGreatDoor
