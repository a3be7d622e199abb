/-
  DERIVED. GIVEN WITH THE SEED: THE CARDS: each row of YtgkhjgpgdfbdpaaGreatDoorRows.lean that lists a variable, with what it lists TIED to the program's text (the seventh form; the later family's looks); each row that meets fmt, with fmt's text TOLD by the authors' own Lean function (tested against real Go, not proved from fmt's source: count such statements apart). THE CARD IS WHAT COUNTS. Prove the row's statement (the work); the ties are given (YtgkhjgpgdfbdpaaGreatDoorTie.lean); close each card by the builder's one call (the guide's Derived/Test/ToyasCard.lean, 'card_holds'). Laid BY PROGRAM, IN A SANDBOX (cutbox-door.mjs). By AI agents, Wed Nov 11 2026. No macro, syntax, notation, axiom, sorry.
-/
import Derived.Test.YtgkhjgpgdfbdpaaGreatDoorRows
import GoSem.ClaimSeven
namespace Go.Proofs.YtgkhjgpgdfbdpaaGreatDoor
namespace Rows

/-- THE TIED CARD OF 'anchorholdlaw34.SetupPrints'. -/
def setupPrintsCard : Claim7 := { stood := { row := setupPrintsRow, standIns := [], harness := (true, "90a0a938be5113ce04799fa74f5135aa50b746a299f6536d913fc873877da7fb"), looks := false }, kinds := [], alts := [], laidByText := true, laidKinds := [.data, .pinned], laidTests := true, laidLooks := .later }
def SetupPrintsCardSaid : Prop := Claim7.holds Tryz.pinned (.plain (OpenSpec.ofChange setupPrintsSpec)) setupPrintsCard

/-- THE TIED CARD OF 'anchorholdlaw34.SetupReads'. -/
def setupReadsCard : Claim7 := { stood := { row := setupReadsRow, standIns := [], harness := (true, "90a0a938be5113ce04799fa74f5135aa50b746a299f6536d913fc873877da7fb"), looks := false }, kinds := [], alts := [], laidByText := true, laidKinds := [.data, .pinned], laidTests := true, laidLooks := .later }
def SetupReadsCardSaid : Prop := Claim7.holds Tryz.pinned (.plain (OpenSpec.ofChange setupReadsSpec)) setupReadsCard

/-- THE SECOND FORM's CARD OF 'anchorholdlaw34.SetupPrints'. -/
def setupPrintsUptoCard : Claim7 := { stood := { row := setupPrintsUptoRow, standIns := [], harness := (true, "90a0a938be5113ce04799fa74f5135aa50b746a299f6536d913fc873877da7fb"), looks := false }, kinds := [], alts := [], laidByText := true, laidKinds := [.data, .pinned], laidTests := true, laidLooks := .later }
def SetupPrintsUptoCardSaid : Prop := Claim7.holds Tryz.pinned (.plain (OpenSpec.upto setupPrintsSpec)) setupPrintsUptoCard

/-- THE SECOND FORM's CARD OF 'anchorholdlaw34.SetupReads'. -/
def setupReadsUptoCard : Claim7 := { stood := { row := setupReadsUptoRow, standIns := [], harness := (true, "90a0a938be5113ce04799fa74f5135aa50b746a299f6536d913fc873877da7fb"), looks := false }, kinds := [], alts := [], laidByText := true, laidKinds := [.data, .pinned], laidTests := true, laidLooks := .later }
def SetupReadsUptoCardSaid : Prop := Claim7.holds Tryz.pinned (.plain (OpenSpec.upto setupReadsSpec)) setupReadsUptoCard
end Rows
end Go.Proofs.YtgkhjgpgdfbdpaaGreatDoor
