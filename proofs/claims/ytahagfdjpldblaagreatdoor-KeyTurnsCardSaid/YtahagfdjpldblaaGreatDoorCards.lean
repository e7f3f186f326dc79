/-
  DERIVED. GIVEN WITH THE SEED: THE CARDS: each row of YtahagfdjpldblaaGreatDoorRows.lean that lists a variable, with what it lists TIED to the program's text (the seventh form; the later family's looks); each row that meets fmt, with fmt's text TOLD by the authors' own Lean function (tested against real Go, not proved from fmt's source: count such statements apart). THE CARD IS WHAT COUNTS. Prove the row's statement (the work); the ties are given (YtahagfdjpldblaaGreatDoorTie.lean); close each card by the builder's one call (the guide's Derived/Test/ToyasCard.lean, 'card_holds'). Laid BY PROGRAM, IN A SANDBOX (cutbox-door.mjs). By AI agents, Wed Nov 11 2026. No macro, syntax, notation, axiom, sorry.
-/
import Derived.Test.YtahagfdjpldblaaGreatDoorRows
import GoSem.ClaimSeven
namespace Go.Proofs.YtahagfdjpldblaaGreatDoor
namespace Rows

/-- THE TIED CARD OF 'transposallaw05.KeySums'. -/
def keySumsCard : Claim7 := { stood := { row := keySumsRow, standIns := [], harness := (true, "8b2a90949a8833271261a2a2af0ce868c63d64ef2b4c5500943566a517b71c21"), looks := true }, kinds := [], alts := [], laidByText := true, laidKinds := [.data, .data, .data, .sentinel, .sentinel, .data], laidTests := true, laidLooks := .later }
def KeySumsCardSaid : Prop := Claim7.holds Tryz.pinned (.plain (OpenSpec.ofChange keySumsSpec)) keySumsCard

/-- THE TIED CARD OF 'transposallaw05.KeyLinks'. -/
def keyLinksCard : Claim7 := { stood := { row := keyLinksRow, standIns := [], harness := (true, "8b2a90949a8833271261a2a2af0ce868c63d64ef2b4c5500943566a517b71c21"), looks := true }, kinds := [], alts := [], laidByText := true, laidKinds := [.data, .data, .data, .sentinel, .sentinel, .data], laidTests := true, laidLooks := .later }
def KeyLinksCardSaid : Prop := Claim7.holds Tryz.pinned (.plain (OpenSpec.ofChange keyLinksSpec)) keyLinksCard

/-- THE TIED CARD OF 'transposallaw05.KeyTurns'. -/
def keyTurnsCard : Claim7 := { stood := { row := keyTurnsRow, standIns := [], harness := (true, "8b2a90949a8833271261a2a2af0ce868c63d64ef2b4c5500943566a517b71c21"), looks := true }, kinds := [], alts := [], laidByText := true, laidKinds := [.data, .data, .data, .sentinel, .sentinel, .data], laidTests := true, laidLooks := .later }
def KeyTurnsCardSaid : Prop := Claim7.holds Tryz.pinned (.plain (OpenSpec.ofChange keyTurnsSpec)) keyTurnsCard

/-- THE SECOND FORM's CARD OF 'transposallaw05.KeySums'. -/
def keySumsUptoCard : Claim7 := { stood := { row := keySumsUptoRow, standIns := [], harness := (true, "8b2a90949a8833271261a2a2af0ce868c63d64ef2b4c5500943566a517b71c21"), looks := true }, kinds := [], alts := [], laidByText := true, laidKinds := [.data, .data, .data, .sentinel, .sentinel, .data], laidTests := true, laidLooks := .later }
def KeySumsUptoCardSaid : Prop := Claim7.holds Tryz.pinned (.plain (OpenSpec.upto keySumsSpec)) keySumsUptoCard

/-- THE SECOND FORM's CARD OF 'transposallaw05.KeyLinks'. -/
def keyLinksUptoCard : Claim7 := { stood := { row := keyLinksUptoRow, standIns := [], harness := (true, "8b2a90949a8833271261a2a2af0ce868c63d64ef2b4c5500943566a517b71c21"), looks := true }, kinds := [], alts := [], laidByText := true, laidKinds := [.data, .data, .data, .sentinel, .sentinel, .data], laidTests := true, laidLooks := .later }
def KeyLinksUptoCardSaid : Prop := Claim7.holds Tryz.pinned (.plain (OpenSpec.upto keyLinksSpec)) keyLinksUptoCard

/-- THE SECOND FORM's CARD OF 'transposallaw05.KeyTurns'. -/
def keyTurnsUptoCard : Claim7 := { stood := { row := keyTurnsUptoRow, standIns := [], harness := (true, "8b2a90949a8833271261a2a2af0ce868c63d64ef2b4c5500943566a517b71c21"), looks := true }, kinds := [], alts := [], laidByText := true, laidKinds := [.data, .data, .data, .sentinel, .sentinel, .data], laidTests := true, laidLooks := .later }
def KeyTurnsUptoCardSaid : Prop := Claim7.holds Tryz.pinned (.plain (OpenSpec.upto keyTurnsSpec)) keyTurnsUptoCard
end Rows
end Go.Proofs.YtahagfdjpldblaaGreatDoor
