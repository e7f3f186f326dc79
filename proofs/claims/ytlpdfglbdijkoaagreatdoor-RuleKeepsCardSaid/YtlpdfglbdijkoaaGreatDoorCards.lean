/-
  DERIVED. GIVEN WITH THE SEED: THE CARDS: each row of YtlpdfglbdijkoaaGreatDoorRows.lean that lists a variable, with what it lists TIED to the program's text (the seventh form; the later family's looks); each row that meets fmt, with fmt's text TOLD by the authors' own Lean function (tested against real Go, not proved from fmt's source: count such statements apart). THE CARD IS WHAT COUNTS. Prove the row's statement (the work); the ties are given (YtlpdfglbdijkoaaGreatDoorTie.lean); close each card by the builder's one call (the guide's Derived/Test/ToyasCard.lean, 'card_holds'). Laid BY PROGRAM, IN A SANDBOX (cutbox-door.mjs). By AI agents, Wed Nov 11 2026. No macro, syntax, notation, axiom, sorry.
-/
import Derived.Test.YtlpdfglbdijkoaaGreatDoorRows
import GoSem.ClaimSeven
namespace Go.Proofs.YtlpdfglbdijkoaaGreatDoor
namespace Rows

/-- THE TIED CARD OF 'transposallaw15.RuleKeeps'. -/
def ruleKeepsCard : Claim7 := { stood := { row := ruleKeepsRow, standIns := [], harness := (true, "ac0c514382bde2ae1fd6d12d8ae80ebe2873bc0aa5d846993c6305461d36a8c9"), looks := true }, kinds := [], alts := [], laidByText := true, laidKinds := [.data, .data, .data, .sentinel, .sentinel, .data, .data], laidTests := true, laidLooks := .later }
def RuleKeepsCardSaid : Prop := Claim7.holds Tryz.pinned (.plain (OpenSpec.ofChange ruleKeepsSpec)) ruleKeepsCard

/-- THE TIED CARD OF 'transposallaw15.RuleBack'. -/
def ruleBackCard : Claim7 := { stood := { row := ruleBackRow, standIns := [], harness := (true, "ac0c514382bde2ae1fd6d12d8ae80ebe2873bc0aa5d846993c6305461d36a8c9"), looks := true }, kinds := [], alts := [], laidByText := true, laidKinds := [.data, .data, .data, .sentinel, .sentinel, .data, .data], laidTests := true, laidLooks := .later }
def RuleBackCardSaid : Prop := Claim7.holds Tryz.pinned (.plain (OpenSpec.ofChange ruleBackSpec)) ruleBackCard

/-- THE TIED CARD OF 'transposallaw15.RuleRaws'. -/
def ruleRawsCard : Claim7 := { stood := { row := ruleRawsRow, standIns := [], harness := (true, "ac0c514382bde2ae1fd6d12d8ae80ebe2873bc0aa5d846993c6305461d36a8c9"), looks := true }, kinds := [], alts := [], laidByText := true, laidKinds := [.data, .data, .data, .data, .sentinel, .sentinel, .data, .data, .pinned], laidTests := true, laidLooks := .later }
def RuleRawsCardSaid : Prop := Claim7.holds Tryz.pinned (.plain (OpenSpec.ofChange ruleRawsSpec)) ruleRawsCard

/-- THE TIED CARD OF 'transposallaw15.RuleNexts'. -/
def ruleNextsCard : Claim7 := { stood := { row := ruleNextsRow, standIns := [], harness := (true, "ac0c514382bde2ae1fd6d12d8ae80ebe2873bc0aa5d846993c6305461d36a8c9"), looks := true }, kinds := [], alts := [], laidByText := true, laidKinds := [.data, .data, .data, .data, .sentinel, .sentinel, .data, .data, .pinned], laidTests := true, laidLooks := .later }
def RuleNextsCardSaid : Prop := Claim7.holds Tryz.pinned (.plain (OpenSpec.ofChange ruleNextsSpec)) ruleNextsCard

/-- THE TIED CARD OF 'transposallaw15.RuleAlls'. -/
def ruleAllsCard : Claim7 := { stood := { row := ruleAllsRow, standIns := [], harness := (true, "ac0c514382bde2ae1fd6d12d8ae80ebe2873bc0aa5d846993c6305461d36a8c9"), looks := true }, kinds := [], alts := [], laidByText := true, laidKinds := [.data, .data, .data, .data, .sentinel, .sentinel, .data, .data, .pinned], laidTests := true, laidLooks := .later }
def RuleAllsCardSaid : Prop := Claim7.holds Tryz.pinned (.plain (OpenSpec.ofChange ruleAllsSpec)) ruleAllsCard

/-- THE SECOND FORM's CARD OF 'transposallaw15.RuleKeeps'. -/
def ruleKeepsUptoCard : Claim7 := { stood := { row := ruleKeepsUptoRow, standIns := [], harness := (true, "ac0c514382bde2ae1fd6d12d8ae80ebe2873bc0aa5d846993c6305461d36a8c9"), looks := true }, kinds := [], alts := [], laidByText := true, laidKinds := [.data, .data, .data, .sentinel, .sentinel, .data, .data], laidTests := true, laidLooks := .later }
def RuleKeepsUptoCardSaid : Prop := Claim7.holds Tryz.pinned (.plain (OpenSpec.upto ruleKeepsSpec)) ruleKeepsUptoCard

/-- THE SECOND FORM's CARD OF 'transposallaw15.RuleBack'. -/
def ruleBackUptoCard : Claim7 := { stood := { row := ruleBackUptoRow, standIns := [], harness := (true, "ac0c514382bde2ae1fd6d12d8ae80ebe2873bc0aa5d846993c6305461d36a8c9"), looks := true }, kinds := [], alts := [], laidByText := true, laidKinds := [.data, .data, .data, .sentinel, .sentinel, .data, .data], laidTests := true, laidLooks := .later }
def RuleBackUptoCardSaid : Prop := Claim7.holds Tryz.pinned (.plain (OpenSpec.upto ruleBackSpec)) ruleBackUptoCard

/-- THE SECOND FORM's CARD OF 'transposallaw15.RuleRaws'. -/
def ruleRawsUptoCard : Claim7 := { stood := { row := ruleRawsUptoRow, standIns := [], harness := (true, "ac0c514382bde2ae1fd6d12d8ae80ebe2873bc0aa5d846993c6305461d36a8c9"), looks := true }, kinds := [], alts := [], laidByText := true, laidKinds := [.data, .data, .data, .data, .sentinel, .sentinel, .data, .data, .pinned], laidTests := true, laidLooks := .later }
def RuleRawsUptoCardSaid : Prop := Claim7.holds Tryz.pinned (.plain (OpenSpec.upto ruleRawsSpec)) ruleRawsUptoCard

/-- THE SECOND FORM's CARD OF 'transposallaw15.RuleNexts'. -/
def ruleNextsUptoCard : Claim7 := { stood := { row := ruleNextsUptoRow, standIns := [], harness := (true, "ac0c514382bde2ae1fd6d12d8ae80ebe2873bc0aa5d846993c6305461d36a8c9"), looks := true }, kinds := [], alts := [], laidByText := true, laidKinds := [.data, .data, .data, .data, .sentinel, .sentinel, .data, .data, .pinned], laidTests := true, laidLooks := .later }
def RuleNextsUptoCardSaid : Prop := Claim7.holds Tryz.pinned (.plain (OpenSpec.upto ruleNextsSpec)) ruleNextsUptoCard

/-- THE SECOND FORM's CARD OF 'transposallaw15.RuleAlls'. -/
def ruleAllsUptoCard : Claim7 := { stood := { row := ruleAllsUptoRow, standIns := [], harness := (true, "ac0c514382bde2ae1fd6d12d8ae80ebe2873bc0aa5d846993c6305461d36a8c9"), looks := true }, kinds := [], alts := [], laidByText := true, laidKinds := [.data, .data, .data, .data, .sentinel, .sentinel, .data, .data, .pinned], laidTests := true, laidLooks := .later }
def RuleAllsUptoCardSaid : Prop := Claim7.holds Tryz.pinned (.plain (OpenSpec.upto ruleAllsSpec)) ruleAllsUptoCard
end Rows
end Go.Proofs.YtlpdfglbdijkoaaGreatDoor
