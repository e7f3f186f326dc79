/-
  DERIVED. GIVEN WITH THE SEED: THE CARDS: each row of YtbhjkddjgikaiaaGreatDoorRows.lean that lists a variable, with what it lists TIED to the program's text (the seventh form; the later family's looks); each row that meets fmt, with fmt's text TOLD by the authors' own Lean function (tested against real Go, not proved from fmt's source: count such statements apart). THE CARD IS WHAT COUNTS. Prove the row's statement (the work); the ties are given (YtbhjkddjgikaiaaGreatDoorTie.lean); close each card by the builder's one call (the guide's Derived/Test/ToyasCard.lean, 'card_holds'). Laid BY PROGRAM, IN A SANDBOX (cutbox-door.mjs). By AI agents, Wed Nov 11 2026. No macro, syntax, notation, axiom, sorry.
-/
import Derived.Test.YtbhjkddjgikaiaaGreatDoorRows
import GoSem.ClaimSeven
namespace Go.Proofs.YtbhjkddjgikaiaaGreatDoor
namespace Rows

/-- THE TIED CARD OF 'transposallaw14.ParseNone'. -/
def parseNoneCard : Claim7 := { stood := { row := parseNoneRow, standIns := [], harness := (true, "fce5299fc41741583ed6db3869b515e7fbd48cc6786719b5dcab95fdc545ac66"), looks := true }, kinds := [], alts := [], laidByText := true, laidKinds := [.data, .data, .data, .sentinel, .sentinel, .data, .data], laidTests := true, laidLooks := .later }
def ParseNoneCardSaid : Prop := Claim7.holds Tryz.pinned (.plain (OpenSpec.ofChange parseNoneSpec)) parseNoneCard

/-- THE TIED CARD OF 'transposallaw14.ParseTexts'. -/
def parseTextsCard : Claim7 := { stood := { row := parseTextsRow, standIns := [], harness := (true, "fce5299fc41741583ed6db3869b515e7fbd48cc6786719b5dcab95fdc545ac66"), looks := true }, kinds := [], alts := [], laidByText := true, laidKinds := [.data, .data, .data, .sentinel, .sentinel, .data, .data], laidTests := true, laidLooks := .later }
def ParseTextsCardSaid : Prop := Claim7.holds Tryz.pinned (.plain (OpenSpec.ofChange parseTextsSpec)) parseTextsCard

/-- THE TIED CARD OF 'transposallaw14.ParseSpoilt'. -/
def parseSpoiltCard : Claim7 := { stood := { row := parseSpoiltRow, standIns := [], harness := (true, "fce5299fc41741583ed6db3869b515e7fbd48cc6786719b5dcab95fdc545ac66"), looks := true }, kinds := [], alts := [], laidByText := true, laidKinds := [.data, .data, .data, .sentinel, .sentinel, .data, .data], laidTests := true, laidLooks := .later }
def ParseSpoiltCardSaid : Prop := Claim7.holds Tryz.pinned (.plain (OpenSpec.ofChange parseSpoiltSpec)) parseSpoiltCard

/-- THE TIED CARD OF 'transposallaw14.ParseMany'. -/
def parseManyCard : Claim7 := { stood := { row := parseManyRow, standIns := [], harness := (true, "fce5299fc41741583ed6db3869b515e7fbd48cc6786719b5dcab95fdc545ac66"), looks := true }, kinds := [], alts := [], laidByText := true, laidKinds := [.data, .data, .data, .sentinel, .sentinel, .data, .data], laidTests := true, laidLooks := .later }
def ParseManyCardSaid : Prop := Claim7.holds Tryz.pinned (.plain (OpenSpec.ofChange parseManySpec)) parseManyCard

/-- THE TIED CARD OF 'transposallaw14.ParseBack'. -/
def parseBackCard : Claim7 := { stood := { row := parseBackRow, standIns := [], harness := (true, "fce5299fc41741583ed6db3869b515e7fbd48cc6786719b5dcab95fdc545ac66"), looks := true }, kinds := [], alts := [], laidByText := true, laidKinds := [.data, .data, .data, .sentinel, .sentinel, .data, .data], laidTests := true, laidLooks := .later }
def ParseBackCardSaid : Prop := Claim7.holds Tryz.pinned (.plain (OpenSpec.ofChange parseBackSpec)) parseBackCard

/-- THE TIED CARD OF 'transposallaw14.ParseNotes'. -/
def parseNotesCard : Claim7 := { stood := { row := parseNotesRow, standIns := [], harness := (true, "fce5299fc41741583ed6db3869b515e7fbd48cc6786719b5dcab95fdc545ac66"), looks := true }, kinds := [], alts := [], laidByText := true, laidKinds := [.data, .data, .data, .data, .sentinel, .sentinel, .data, .data, .pinned], laidTests := true, laidLooks := .later }
def ParseNotesCardSaid : Prop := Claim7.holds Tryz.pinned (.plain (OpenSpec.ofChange parseNotesSpec)) parseNotesCard

/-- THE TIED CARD OF 'transposallaw15.RuleKeeps'. -/
def ruleKeepsCard : Claim7 := { stood := { row := ruleKeepsRow, standIns := [], harness := (true, "fce5299fc41741583ed6db3869b515e7fbd48cc6786719b5dcab95fdc545ac66"), looks := true }, kinds := [], alts := [], laidByText := true, laidKinds := [.data, .data, .data, .sentinel, .sentinel, .data, .data], laidTests := true, laidLooks := .later }
def RuleKeepsCardSaid : Prop := Claim7.holds Tryz.pinned (.plain (OpenSpec.ofChange ruleKeepsSpec)) ruleKeepsCard

/-- THE TIED CARD OF 'transposallaw15.RuleSpans'. -/
def ruleSpansCard : Claim7 := { stood := { row := ruleSpansRow, standIns := [], harness := (true, "fce5299fc41741583ed6db3869b515e7fbd48cc6786719b5dcab95fdc545ac66"), looks := true }, kinds := [], alts := [], laidByText := true, laidKinds := [.data, .data, .data, .sentinel, .sentinel, .data, .data], laidTests := true, laidLooks := .later }
def RuleSpansCardSaid : Prop := Claim7.holds Tryz.pinned (.plain (OpenSpec.ofChange ruleSpansSpec)) ruleSpansCard

/-- THE TIED CARD OF 'transposallaw15.RuleBack'. -/
def ruleBackCard : Claim7 := { stood := { row := ruleBackRow, standIns := [], harness := (true, "fce5299fc41741583ed6db3869b515e7fbd48cc6786719b5dcab95fdc545ac66"), looks := true }, kinds := [], alts := [], laidByText := true, laidKinds := [.data, .data, .data, .sentinel, .sentinel, .data, .data], laidTests := true, laidLooks := .later }
def RuleBackCardSaid : Prop := Claim7.holds Tryz.pinned (.plain (OpenSpec.ofChange ruleBackSpec)) ruleBackCard

/-- THE TIED CARD OF 'transposallaw15.RuleRaws'. -/
def ruleRawsCard : Claim7 := { stood := { row := ruleRawsRow, standIns := [], harness := (true, "fce5299fc41741583ed6db3869b515e7fbd48cc6786719b5dcab95fdc545ac66"), looks := true }, kinds := [], alts := [], laidByText := true, laidKinds := [.data, .data, .data, .data, .sentinel, .sentinel, .data, .data, .pinned], laidTests := true, laidLooks := .later }
def RuleRawsCardSaid : Prop := Claim7.holds Tryz.pinned (.plain (OpenSpec.ofChange ruleRawsSpec)) ruleRawsCard

/-- THE TIED CARD OF 'transposallaw15.RuleNexts'. -/
def ruleNextsCard : Claim7 := { stood := { row := ruleNextsRow, standIns := [], harness := (true, "fce5299fc41741583ed6db3869b515e7fbd48cc6786719b5dcab95fdc545ac66"), looks := true }, kinds := [], alts := [], laidByText := true, laidKinds := [.data, .data, .data, .data, .sentinel, .sentinel, .data, .data, .pinned], laidTests := true, laidLooks := .later }
def RuleNextsCardSaid : Prop := Claim7.holds Tryz.pinned (.plain (OpenSpec.ofChange ruleNextsSpec)) ruleNextsCard

/-- THE TIED CARD OF 'transposallaw15.RuleAlls'. -/
def ruleAllsCard : Claim7 := { stood := { row := ruleAllsRow, standIns := [], harness := (true, "fce5299fc41741583ed6db3869b515e7fbd48cc6786719b5dcab95fdc545ac66"), looks := true }, kinds := [], alts := [], laidByText := true, laidKinds := [.data, .data, .data, .data, .sentinel, .sentinel, .data, .data, .pinned], laidTests := true, laidLooks := .later }
def RuleAllsCardSaid : Prop := Claim7.holds Tryz.pinned (.plain (OpenSpec.ofChange ruleAllsSpec)) ruleAllsCard

/-- THE SECOND FORM's CARD OF 'transposallaw14.ParseNone'. -/
def parseNoneUptoCard : Claim7 := { stood := { row := parseNoneUptoRow, standIns := [], harness := (true, "fce5299fc41741583ed6db3869b515e7fbd48cc6786719b5dcab95fdc545ac66"), looks := true }, kinds := [], alts := [], laidByText := true, laidKinds := [.data, .data, .data, .sentinel, .sentinel, .data, .data], laidTests := true, laidLooks := .later }
def ParseNoneUptoCardSaid : Prop := Claim7.holds Tryz.pinned (.plain (OpenSpec.upto parseNoneSpec)) parseNoneUptoCard

/-- THE SECOND FORM's CARD OF 'transposallaw14.ParseTexts'. -/
def parseTextsUptoCard : Claim7 := { stood := { row := parseTextsUptoRow, standIns := [], harness := (true, "fce5299fc41741583ed6db3869b515e7fbd48cc6786719b5dcab95fdc545ac66"), looks := true }, kinds := [], alts := [], laidByText := true, laidKinds := [.data, .data, .data, .sentinel, .sentinel, .data, .data], laidTests := true, laidLooks := .later }
def ParseTextsUptoCardSaid : Prop := Claim7.holds Tryz.pinned (.plain (OpenSpec.upto parseTextsSpec)) parseTextsUptoCard

/-- THE SECOND FORM's CARD OF 'transposallaw14.ParseSpoilt'. -/
def parseSpoiltUptoCard : Claim7 := { stood := { row := parseSpoiltUptoRow, standIns := [], harness := (true, "fce5299fc41741583ed6db3869b515e7fbd48cc6786719b5dcab95fdc545ac66"), looks := true }, kinds := [], alts := [], laidByText := true, laidKinds := [.data, .data, .data, .sentinel, .sentinel, .data, .data], laidTests := true, laidLooks := .later }
def ParseSpoiltUptoCardSaid : Prop := Claim7.holds Tryz.pinned (.plain (OpenSpec.upto parseSpoiltSpec)) parseSpoiltUptoCard

/-- THE SECOND FORM's CARD OF 'transposallaw14.ParseMany'. -/
def parseManyUptoCard : Claim7 := { stood := { row := parseManyUptoRow, standIns := [], harness := (true, "fce5299fc41741583ed6db3869b515e7fbd48cc6786719b5dcab95fdc545ac66"), looks := true }, kinds := [], alts := [], laidByText := true, laidKinds := [.data, .data, .data, .sentinel, .sentinel, .data, .data], laidTests := true, laidLooks := .later }
def ParseManyUptoCardSaid : Prop := Claim7.holds Tryz.pinned (.plain (OpenSpec.upto parseManySpec)) parseManyUptoCard

/-- THE SECOND FORM's CARD OF 'transposallaw14.ParseBack'. -/
def parseBackUptoCard : Claim7 := { stood := { row := parseBackUptoRow, standIns := [], harness := (true, "fce5299fc41741583ed6db3869b515e7fbd48cc6786719b5dcab95fdc545ac66"), looks := true }, kinds := [], alts := [], laidByText := true, laidKinds := [.data, .data, .data, .sentinel, .sentinel, .data, .data], laidTests := true, laidLooks := .later }
def ParseBackUptoCardSaid : Prop := Claim7.holds Tryz.pinned (.plain (OpenSpec.upto parseBackSpec)) parseBackUptoCard

/-- THE SECOND FORM's CARD OF 'transposallaw14.ParseNotes'. -/
def parseNotesUptoCard : Claim7 := { stood := { row := parseNotesUptoRow, standIns := [], harness := (true, "fce5299fc41741583ed6db3869b515e7fbd48cc6786719b5dcab95fdc545ac66"), looks := true }, kinds := [], alts := [], laidByText := true, laidKinds := [.data, .data, .data, .data, .sentinel, .sentinel, .data, .data, .pinned], laidTests := true, laidLooks := .later }
def ParseNotesUptoCardSaid : Prop := Claim7.holds Tryz.pinned (.plain (OpenSpec.upto parseNotesSpec)) parseNotesUptoCard

/-- THE SECOND FORM's CARD OF 'transposallaw15.RuleKeeps'. -/
def ruleKeepsUptoCard : Claim7 := { stood := { row := ruleKeepsUptoRow, standIns := [], harness := (true, "fce5299fc41741583ed6db3869b515e7fbd48cc6786719b5dcab95fdc545ac66"), looks := true }, kinds := [], alts := [], laidByText := true, laidKinds := [.data, .data, .data, .sentinel, .sentinel, .data, .data], laidTests := true, laidLooks := .later }
def RuleKeepsUptoCardSaid : Prop := Claim7.holds Tryz.pinned (.plain (OpenSpec.upto ruleKeepsSpec)) ruleKeepsUptoCard

/-- THE SECOND FORM's CARD OF 'transposallaw15.RuleSpans'. -/
def ruleSpansUptoCard : Claim7 := { stood := { row := ruleSpansUptoRow, standIns := [], harness := (true, "fce5299fc41741583ed6db3869b515e7fbd48cc6786719b5dcab95fdc545ac66"), looks := true }, kinds := [], alts := [], laidByText := true, laidKinds := [.data, .data, .data, .sentinel, .sentinel, .data, .data], laidTests := true, laidLooks := .later }
def RuleSpansUptoCardSaid : Prop := Claim7.holds Tryz.pinned (.plain (OpenSpec.upto ruleSpansSpec)) ruleSpansUptoCard

/-- THE SECOND FORM's CARD OF 'transposallaw15.RuleBack'. -/
def ruleBackUptoCard : Claim7 := { stood := { row := ruleBackUptoRow, standIns := [], harness := (true, "fce5299fc41741583ed6db3869b515e7fbd48cc6786719b5dcab95fdc545ac66"), looks := true }, kinds := [], alts := [], laidByText := true, laidKinds := [.data, .data, .data, .sentinel, .sentinel, .data, .data], laidTests := true, laidLooks := .later }
def RuleBackUptoCardSaid : Prop := Claim7.holds Tryz.pinned (.plain (OpenSpec.upto ruleBackSpec)) ruleBackUptoCard

/-- THE SECOND FORM's CARD OF 'transposallaw15.RuleRaws'. -/
def ruleRawsUptoCard : Claim7 := { stood := { row := ruleRawsUptoRow, standIns := [], harness := (true, "fce5299fc41741583ed6db3869b515e7fbd48cc6786719b5dcab95fdc545ac66"), looks := true }, kinds := [], alts := [], laidByText := true, laidKinds := [.data, .data, .data, .data, .sentinel, .sentinel, .data, .data, .pinned], laidTests := true, laidLooks := .later }
def RuleRawsUptoCardSaid : Prop := Claim7.holds Tryz.pinned (.plain (OpenSpec.upto ruleRawsSpec)) ruleRawsUptoCard

/-- THE SECOND FORM's CARD OF 'transposallaw15.RuleNexts'. -/
def ruleNextsUptoCard : Claim7 := { stood := { row := ruleNextsUptoRow, standIns := [], harness := (true, "fce5299fc41741583ed6db3869b515e7fbd48cc6786719b5dcab95fdc545ac66"), looks := true }, kinds := [], alts := [], laidByText := true, laidKinds := [.data, .data, .data, .data, .sentinel, .sentinel, .data, .data, .pinned], laidTests := true, laidLooks := .later }
def RuleNextsUptoCardSaid : Prop := Claim7.holds Tryz.pinned (.plain (OpenSpec.upto ruleNextsSpec)) ruleNextsUptoCard

/-- THE SECOND FORM's CARD OF 'transposallaw15.RuleAlls'. -/
def ruleAllsUptoCard : Claim7 := { stood := { row := ruleAllsUptoRow, standIns := [], harness := (true, "fce5299fc41741583ed6db3869b515e7fbd48cc6786719b5dcab95fdc545ac66"), looks := true }, kinds := [], alts := [], laidByText := true, laidKinds := [.data, .data, .data, .data, .sentinel, .sentinel, .data, .data, .pinned], laidTests := true, laidLooks := .later }
def RuleAllsUptoCardSaid : Prop := Claim7.holds Tryz.pinned (.plain (OpenSpec.upto ruleAllsSpec)) ruleAllsUptoCard
end Rows
end Go.Proofs.YtbhjkddjgikaiaaGreatDoor
