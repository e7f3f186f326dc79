/-
  DERIVED. GIVEN WITH THE SEED: THE CARDS: each row of YtahagfdjpldblaaDoorRows.lean that lists a variable, with what it lists TIED to the program's text (the seventh form; the later family's looks); each row that meets fmt, with fmt's text TOLD by the authors' own Lean function (tested against real Go, not proved from fmt's source: count such statements apart). THE CARD IS WHAT COUNTS. Prove the row's statement (the work); the ties are given (YtahagfdjpldblaaDoorTie.lean); close each card by the builder's one call (the guide's Derived/Test/ToyasCard.lean, 'card_holds'). Laid BY PROGRAM, IN A SANDBOX (cutbox-door.mjs). By AI agents, Wed Nov 11 2026. No macro, syntax, notation, axiom, sorry.
-/
import Derived.Test.YtahagfdjpldblaaDoorRows
import GoSem.ClaimSeven
namespace Go.Proofs.YtahagfdjpldblaaDoor
namespace Rows

/-- THE TIED CARD OF 'transposallaw05.KeyUnpacks'. -/
def keyUnpacksCard : Claim7 := { stood := { row := keyUnpacksRow, standIns := [], harness := (true, "5901a561bdd24d9bcd38ae6fdf5a592a430b7e26b76800532c0095796360d036"), looks := true }, kinds := [], alts := [], laidByText := true, laidKinds := [.data, .data, .data, .sentinel, .sentinel, .data], laidTests := true, laidLooks := .later }
def KeyUnpacksCardSaid : Prop := Claim7.holds Tryd.pinned (.plain (OpenSpec.ofChange keyUnpacksSpec)) keyUnpacksCard

/-- THE TIED CARD OF 'transposallaw05.KeyPacks'. -/
def keyPacksCard : Claim7 := { stood := { row := keyPacksRow, standIns := [], harness := (true, "5901a561bdd24d9bcd38ae6fdf5a592a430b7e26b76800532c0095796360d036"), looks := true }, kinds := [], alts := [], laidByText := true, laidKinds := [.data, .data, .data, .sentinel, .sentinel, .data], laidTests := true, laidLooks := .later }
def KeyPacksCardSaid : Prop := Claim7.holds Tryd.pinned (.plain (OpenSpec.ofChange keyPacksSpec)) keyPacksCard

/-- THE SECOND FORM's CARD OF 'transposallaw05.KeyUnpacks'. -/
def keyUnpacksUptoCard : Claim7 := { stood := { row := keyUnpacksUptoRow, standIns := [], harness := (true, "5901a561bdd24d9bcd38ae6fdf5a592a430b7e26b76800532c0095796360d036"), looks := true }, kinds := [], alts := [], laidByText := true, laidKinds := [.data, .data, .data, .sentinel, .sentinel, .data], laidTests := true, laidLooks := .later }
def KeyUnpacksUptoCardSaid : Prop := Claim7.holds Tryd.pinned (.plain (OpenSpec.upto keyUnpacksSpec)) keyUnpacksUptoCard

/-- THE SECOND FORM's CARD OF 'transposallaw05.KeyPacks'. -/
def keyPacksUptoCard : Claim7 := { stood := { row := keyPacksUptoRow, standIns := [], harness := (true, "5901a561bdd24d9bcd38ae6fdf5a592a430b7e26b76800532c0095796360d036"), looks := true }, kinds := [], alts := [], laidByText := true, laidKinds := [.data, .data, .data, .sentinel, .sentinel, .data], laidTests := true, laidLooks := .later }
def KeyPacksUptoCardSaid : Prop := Claim7.holds Tryd.pinned (.plain (OpenSpec.upto keyPacksSpec)) keyPacksUptoCard
end Rows
end Go.Proofs.YtahagfdjpldblaaDoor
