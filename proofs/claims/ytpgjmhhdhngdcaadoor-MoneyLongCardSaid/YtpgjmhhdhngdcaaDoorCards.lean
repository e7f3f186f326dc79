/-
  DERIVED. GIVEN WITH THE SEED: THE CARDS: each row of YtpgjmhhdhngdcaaDoorRows.lean that lists a variable, with what it lists TIED to the program's text (the seventh form; the later family's looks); each row that meets fmt, with fmt's text TOLD by the authors' own Lean function (tested against real Go, not proved from fmt's source: count such statements apart). THE CARD IS WHAT COUNTS. Prove the row's statement (the work); the ties are given (YtpgjmhhdhngdcaaDoorTie.lean); close each card by the builder's one call (the guide's Derived/Test/ToyasCard.lean, 'card_holds'). Laid BY PROGRAM, IN A SANDBOX (cutbox-door.mjs). By AI agents, Wed Nov 11 2026. No macro, syntax, notation, axiom, sorry.
-/
import Derived.Test.YtpgjmhhdhngdcaaDoorRows
import GoSem.ClaimSeven
namespace Go.Proofs.YtpgjmhhdhngdcaaDoor
namespace Rows

/-- THE TIED CARD OF 'transposallaw02.MoneyTexts'. -/
def moneyTextsCard : Claim7 := { stood := { row := moneyTextsRow, standIns := [], harness := (true, "9c2017bd6de7f11525f4ddd2cd9026582ce76eee06e72247c0b7b7ca53689960"), looks := true }, kinds := [], alts := [], laidByText := true, laidKinds := [.data, .data, .data, .sentinel, .sentinel], laidTests := true, laidLooks := .later }
def MoneyTextsCardSaid : Prop := Claim7.holds Tryd.pinned (.plain (OpenSpec.ofChange moneyTextsSpec)) moneyTextsCard

/-- THE TIED CARD OF 'transposallaw02.MoneyParses'. -/
def moneyParsesCard : Claim7 := { stood := { row := moneyParsesRow, standIns := [], harness := (true, "9c2017bd6de7f11525f4ddd2cd9026582ce76eee06e72247c0b7b7ca53689960"), looks := true }, kinds := [], alts := [], laidByText := true, laidKinds := [.data, .data, .data, .sentinel, .sentinel], laidTests := true, laidLooks := .later }
def MoneyParsesCardSaid : Prop := Claim7.holds Tryd.pinned (.plain (OpenSpec.ofChange moneyParsesSpec)) moneyParsesCard

/-- THE TIED CARD OF 'transposallaw02.MoneyAdds'. -/
def moneyAddsCard : Claim7 := { stood := { row := moneyAddsRow, standIns := [], harness := (true, "9c2017bd6de7f11525f4ddd2cd9026582ce76eee06e72247c0b7b7ca53689960"), looks := true }, kinds := [], alts := [], laidByText := true, laidKinds := [.data, .data, .data, .sentinel, .sentinel], laidTests := true, laidLooks := .later }
def MoneyAddsCardSaid : Prop := Claim7.holds Tryd.pinned (.plain (OpenSpec.ofChange moneyAddsSpec)) moneyAddsCard

/-- THE TIED CARD OF 'transposallaw02.MoneySums'. -/
def moneySumsCard : Claim7 := { stood := { row := moneySumsRow, standIns := [], harness := (true, "9c2017bd6de7f11525f4ddd2cd9026582ce76eee06e72247c0b7b7ca53689960"), looks := true }, kinds := [], alts := [], laidByText := true, laidKinds := [.data, .data, .data, .sentinel, .sentinel], laidTests := true, laidLooks := .later }
def MoneySumsCardSaid : Prop := Claim7.holds Tryd.pinned (.plain (OpenSpec.ofChange moneySumsSpec)) moneySumsCard

/-- THE TIED CARD OF 'transposallaw02.MoneyTurns'. -/
def moneyTurnsCard : Claim7 := { stood := { row := moneyTurnsRow, standIns := [], harness := (true, "9c2017bd6de7f11525f4ddd2cd9026582ce76eee06e72247c0b7b7ca53689960"), looks := true }, kinds := [], alts := [], laidByText := true, laidKinds := [.data, .data, .data, .sentinel, .sentinel], laidTests := true, laidLooks := .later }
def MoneyTurnsCardSaid : Prop := Claim7.holds Tryd.pinned (.plain (OpenSpec.ofChange moneyTurnsSpec)) moneyTurnsCard

/-- THE TIED CARD OF 'transposallaw03.ShareAllots'. -/
def shareAllotsCard : Claim7 := { stood := { row := shareAllotsRow, standIns := [], harness := (true, "9c2017bd6de7f11525f4ddd2cd9026582ce76eee06e72247c0b7b7ca53689960"), looks := true }, kinds := [], alts := [], laidByText := true, laidKinds := [.data, .data, .data, .sentinel, .sentinel], laidTests := true, laidLooks := .later }
def ShareAllotsCardSaid : Prop := Claim7.holds Tryd.pinned (.plain (OpenSpec.ofChange shareAllotsSpec)) shareAllotsCard

/-- THE TIED CARD OF 'transposallaw03.ShareSums'. -/
def shareSumsCard : Claim7 := { stood := { row := shareSumsRow, standIns := [], harness := (true, "9c2017bd6de7f11525f4ddd2cd9026582ce76eee06e72247c0b7b7ca53689960"), looks := true }, kinds := [], alts := [], laidByText := true, laidKinds := [.data, .data, .data, .sentinel, .sentinel], laidTests := true, laidLooks := .later }
def ShareSumsCardSaid : Prop := Claim7.holds Tryd.pinned (.plain (OpenSpec.ofChange shareSumsSpec)) shareSumsCard

/-- THE TIED CARD OF 'transposallaw03.ShareErrors'. -/
def shareErrorsCard : Claim7 := { stood := { row := shareErrorsRow, standIns := [], harness := (true, "9c2017bd6de7f11525f4ddd2cd9026582ce76eee06e72247c0b7b7ca53689960"), looks := true }, kinds := [], alts := [], laidByText := true, laidKinds := [.data, .data, .data, .sentinel, .sentinel], laidTests := true, laidLooks := .later }
def ShareErrorsCardSaid : Prop := Claim7.holds Tryd.pinned (.plain (OpenSpec.ofChange shareErrorsSpec)) shareErrorsCard

/-- THE TIED CARD OF 'transposallaw03.ShareTurns'. -/
def shareTurnsCard : Claim7 := { stood := { row := shareTurnsRow, standIns := [], harness := (true, "9c2017bd6de7f11525f4ddd2cd9026582ce76eee06e72247c0b7b7ca53689960"), looks := true }, kinds := [], alts := [], laidByText := true, laidKinds := [.data, .data, .data, .sentinel, .sentinel], laidTests := true, laidLooks := .later }
def ShareTurnsCardSaid : Prop := Claim7.holds Tryd.pinned (.plain (OpenSpec.ofChange shareTurnsSpec)) shareTurnsCard

/-- THE TIED CARD OF 'transposallaw03.ShareNear'. -/
def shareNearCard : Claim7 := { stood := { row := shareNearRow, standIns := [], harness := (true, "9c2017bd6de7f11525f4ddd2cd9026582ce76eee06e72247c0b7b7ca53689960"), looks := true }, kinds := [], alts := [], laidByText := true, laidKinds := [.data, .data, .data, .sentinel, .sentinel], laidTests := true, laidLooks := .later }
def ShareNearCardSaid : Prop := Claim7.holds Tryd.pinned (.plain (OpenSpec.ofChange shareNearSpec)) shareNearCard

/-- THE TIED CARD OF 'transposallaw02.MoneyLong'. -/
def moneyLongCard : Claim7 := { stood := { row := moneyLongRow, standIns := [], harness := (true, "9c2017bd6de7f11525f4ddd2cd9026582ce76eee06e72247c0b7b7ca53689960"), looks := true }, kinds := [], alts := [], laidByText := true, laidKinds := [.data, .data, .data, .data, .sentinel, .sentinel, .pinned], laidTests := true, laidLooks := .later }
def MoneyLongCardSaid : Prop := Claim7.holds Tryd.pinned (.plain (OpenSpec.ofChange moneyLongSpec)) moneyLongCard

/-- THE SECOND FORM's CARD OF 'transposallaw02.MoneyTexts'. -/
def moneyTextsUptoCard : Claim7 := { stood := { row := moneyTextsUptoRow, standIns := [], harness := (true, "9c2017bd6de7f11525f4ddd2cd9026582ce76eee06e72247c0b7b7ca53689960"), looks := true }, kinds := [], alts := [], laidByText := true, laidKinds := [.data, .data, .data, .sentinel, .sentinel], laidTests := true, laidLooks := .later }
def MoneyTextsUptoCardSaid : Prop := Claim7.holds Tryd.pinned (.plain (OpenSpec.upto moneyTextsSpec)) moneyTextsUptoCard

/-- THE SECOND FORM's CARD OF 'transposallaw02.MoneyParses'. -/
def moneyParsesUptoCard : Claim7 := { stood := { row := moneyParsesUptoRow, standIns := [], harness := (true, "9c2017bd6de7f11525f4ddd2cd9026582ce76eee06e72247c0b7b7ca53689960"), looks := true }, kinds := [], alts := [], laidByText := true, laidKinds := [.data, .data, .data, .sentinel, .sentinel], laidTests := true, laidLooks := .later }
def MoneyParsesUptoCardSaid : Prop := Claim7.holds Tryd.pinned (.plain (OpenSpec.upto moneyParsesSpec)) moneyParsesUptoCard

/-- THE SECOND FORM's CARD OF 'transposallaw02.MoneyAdds'. -/
def moneyAddsUptoCard : Claim7 := { stood := { row := moneyAddsUptoRow, standIns := [], harness := (true, "9c2017bd6de7f11525f4ddd2cd9026582ce76eee06e72247c0b7b7ca53689960"), looks := true }, kinds := [], alts := [], laidByText := true, laidKinds := [.data, .data, .data, .sentinel, .sentinel], laidTests := true, laidLooks := .later }
def MoneyAddsUptoCardSaid : Prop := Claim7.holds Tryd.pinned (.plain (OpenSpec.upto moneyAddsSpec)) moneyAddsUptoCard

/-- THE SECOND FORM's CARD OF 'transposallaw02.MoneySums'. -/
def moneySumsUptoCard : Claim7 := { stood := { row := moneySumsUptoRow, standIns := [], harness := (true, "9c2017bd6de7f11525f4ddd2cd9026582ce76eee06e72247c0b7b7ca53689960"), looks := true }, kinds := [], alts := [], laidByText := true, laidKinds := [.data, .data, .data, .sentinel, .sentinel], laidTests := true, laidLooks := .later }
def MoneySumsUptoCardSaid : Prop := Claim7.holds Tryd.pinned (.plain (OpenSpec.upto moneySumsSpec)) moneySumsUptoCard

/-- THE SECOND FORM's CARD OF 'transposallaw02.MoneyTurns'. -/
def moneyTurnsUptoCard : Claim7 := { stood := { row := moneyTurnsUptoRow, standIns := [], harness := (true, "9c2017bd6de7f11525f4ddd2cd9026582ce76eee06e72247c0b7b7ca53689960"), looks := true }, kinds := [], alts := [], laidByText := true, laidKinds := [.data, .data, .data, .sentinel, .sentinel], laidTests := true, laidLooks := .later }
def MoneyTurnsUptoCardSaid : Prop := Claim7.holds Tryd.pinned (.plain (OpenSpec.upto moneyTurnsSpec)) moneyTurnsUptoCard

/-- THE SECOND FORM's CARD OF 'transposallaw03.ShareAllots'. -/
def shareAllotsUptoCard : Claim7 := { stood := { row := shareAllotsUptoRow, standIns := [], harness := (true, "9c2017bd6de7f11525f4ddd2cd9026582ce76eee06e72247c0b7b7ca53689960"), looks := true }, kinds := [], alts := [], laidByText := true, laidKinds := [.data, .data, .data, .sentinel, .sentinel], laidTests := true, laidLooks := .later }
def ShareAllotsUptoCardSaid : Prop := Claim7.holds Tryd.pinned (.plain (OpenSpec.upto shareAllotsSpec)) shareAllotsUptoCard

/-- THE SECOND FORM's CARD OF 'transposallaw03.ShareSums'. -/
def shareSumsUptoCard : Claim7 := { stood := { row := shareSumsUptoRow, standIns := [], harness := (true, "9c2017bd6de7f11525f4ddd2cd9026582ce76eee06e72247c0b7b7ca53689960"), looks := true }, kinds := [], alts := [], laidByText := true, laidKinds := [.data, .data, .data, .sentinel, .sentinel], laidTests := true, laidLooks := .later }
def ShareSumsUptoCardSaid : Prop := Claim7.holds Tryd.pinned (.plain (OpenSpec.upto shareSumsSpec)) shareSumsUptoCard

/-- THE SECOND FORM's CARD OF 'transposallaw03.ShareErrors'. -/
def shareErrorsUptoCard : Claim7 := { stood := { row := shareErrorsUptoRow, standIns := [], harness := (true, "9c2017bd6de7f11525f4ddd2cd9026582ce76eee06e72247c0b7b7ca53689960"), looks := true }, kinds := [], alts := [], laidByText := true, laidKinds := [.data, .data, .data, .sentinel, .sentinel], laidTests := true, laidLooks := .later }
def ShareErrorsUptoCardSaid : Prop := Claim7.holds Tryd.pinned (.plain (OpenSpec.upto shareErrorsSpec)) shareErrorsUptoCard

/-- THE SECOND FORM's CARD OF 'transposallaw03.ShareTurns'. -/
def shareTurnsUptoCard : Claim7 := { stood := { row := shareTurnsUptoRow, standIns := [], harness := (true, "9c2017bd6de7f11525f4ddd2cd9026582ce76eee06e72247c0b7b7ca53689960"), looks := true }, kinds := [], alts := [], laidByText := true, laidKinds := [.data, .data, .data, .sentinel, .sentinel], laidTests := true, laidLooks := .later }
def ShareTurnsUptoCardSaid : Prop := Claim7.holds Tryd.pinned (.plain (OpenSpec.upto shareTurnsSpec)) shareTurnsUptoCard

/-- THE SECOND FORM's CARD OF 'transposallaw03.ShareNear'. -/
def shareNearUptoCard : Claim7 := { stood := { row := shareNearUptoRow, standIns := [], harness := (true, "9c2017bd6de7f11525f4ddd2cd9026582ce76eee06e72247c0b7b7ca53689960"), looks := true }, kinds := [], alts := [], laidByText := true, laidKinds := [.data, .data, .data, .sentinel, .sentinel], laidTests := true, laidLooks := .later }
def ShareNearUptoCardSaid : Prop := Claim7.holds Tryd.pinned (.plain (OpenSpec.upto shareNearSpec)) shareNearUptoCard

/-- THE SECOND FORM's CARD OF 'transposallaw02.MoneyLong'. -/
def moneyLongUptoCard : Claim7 := { stood := { row := moneyLongUptoRow, standIns := [], harness := (true, "9c2017bd6de7f11525f4ddd2cd9026582ce76eee06e72247c0b7b7ca53689960"), looks := true }, kinds := [], alts := [], laidByText := true, laidKinds := [.data, .data, .data, .data, .sentinel, .sentinel, .pinned], laidTests := true, laidLooks := .later }
def MoneyLongUptoCardSaid : Prop := Claim7.holds Tryd.pinned (.plain (OpenSpec.upto moneyLongSpec)) moneyLongUptoCard
end Rows
end Go.Proofs.YtpgjmhhdhngdcaaDoor
