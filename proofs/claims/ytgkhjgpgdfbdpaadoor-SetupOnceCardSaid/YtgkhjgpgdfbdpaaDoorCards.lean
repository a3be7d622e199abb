/-
  DERIVED. GIVEN WITH THE SEED: THE CARDS: each row of YtgkhjgpgdfbdpaaDoorRows.lean that lists a variable, with what it lists TIED to the program's text (the seventh form; the later family's looks); each row that meets fmt, with fmt's text TOLD by the authors' own Lean function (tested against real Go, not proved from fmt's source: count such statements apart). THE CARD IS WHAT COUNTS. Prove the row's statement (the work); the ties are given (YtgkhjgpgdfbdpaaDoorTie.lean); close each card by the builder's one call (the guide's Derived/Test/ToyasCard.lean, 'card_holds'). Laid BY PROGRAM, IN A SANDBOX (cutbox-door.mjs). By AI agents, Wed Nov 11 2026. No macro, syntax, notation, axiom, sorry.
-/
import Derived.Test.YtgkhjgpgdfbdpaaDoorRows
import GoSem.ClaimSeven
namespace Go.Proofs.YtgkhjgpgdfbdpaaDoor
namespace Rows

/-- THE TIED CARD OF 'anchorholdlaw28.TracePrints'. -/
def tracePrintsCard : Claim7 := { stood := { row := tracePrintsRow, standIns := [], harness := (true, "c082c60409e0631f567a4130440274dce6793ae772a204c95c358d5725db377b"), looks := false }, kinds := [], alts := [], laidByText := true, laidKinds := [.data, .pinned], laidTests := true, laidLooks := .later }
def TracePrintsCardSaid : Prop := Claim7.holds Tryd.pinned (.plain (OpenSpec.ofChange tracePrintsSpec)) tracePrintsCard

/-- THE TIED CARD OF 'anchorholdlaw28.TraceReads'. -/
def traceReadsCard : Claim7 := { stood := { row := traceReadsRow, standIns := [], harness := (true, "c082c60409e0631f567a4130440274dce6793ae772a204c95c358d5725db377b"), looks := false }, kinds := [], alts := [], laidByText := true, laidKinds := [.data, .pinned], laidTests := true, laidLooks := .later }
def TraceReadsCardSaid : Prop := Claim7.holds Tryd.pinned (.plain (OpenSpec.ofChange traceReadsSpec)) traceReadsCard

/-- THE TIED CARD OF 'anchorholdlaw28.TraceBack'. -/
def traceBackCard : Claim7 := { stood := { row := traceBackRow, standIns := [], harness := (true, "c082c60409e0631f567a4130440274dce6793ae772a204c95c358d5725db377b"), looks := false }, kinds := [], alts := [], laidByText := true, laidKinds := [.data, .pinned], laidTests := true, laidLooks := .later }
def TraceBackCardSaid : Prop := Claim7.holds Tryd.pinned (.plain (OpenSpec.ofChange traceBackSpec)) traceBackCard

/-- THE TIED CARD OF 'anchorholdlaw28.TraceWindows'. -/
def traceWindowsCard : Claim7 := { stood := { row := traceWindowsRow, standIns := [], harness := (true, "c082c60409e0631f567a4130440274dce6793ae772a204c95c358d5725db377b"), looks := false }, kinds := [], alts := [], laidByText := true, laidKinds := [.data, .pinned], laidTests := true, laidLooks := .later }
def TraceWindowsCardSaid : Prop := Claim7.holds Tryd.pinned (.plain (OpenSpec.ofChange traceWindowsSpec)) traceWindowsCard

/-- THE TIED CARD OF 'anchorholdlaw29.ScriptPrints'. -/
def scriptPrintsCard : Claim7 := { stood := { row := scriptPrintsRow, standIns := [], harness := (true, "c082c60409e0631f567a4130440274dce6793ae772a204c95c358d5725db377b"), looks := false }, kinds := [], alts := [], laidByText := true, laidKinds := [.data, .pinned], laidTests := true, laidLooks := .later }
def ScriptPrintsCardSaid : Prop := Claim7.holds Tryd.pinned (.plain (OpenSpec.ofChange scriptPrintsSpec)) scriptPrintsCard

/-- THE TIED CARD OF 'anchorholdlaw29.ScriptReads'. -/
def scriptReadsCard : Claim7 := { stood := { row := scriptReadsRow, standIns := [], harness := (true, "c082c60409e0631f567a4130440274dce6793ae772a204c95c358d5725db377b"), looks := false }, kinds := [], alts := [], laidByText := true, laidKinds := [.data, .pinned], laidTests := true, laidLooks := .later }
def ScriptReadsCardSaid : Prop := Claim7.holds Tryd.pinned (.plain (OpenSpec.ofChange scriptReadsSpec)) scriptReadsCard

/-- THE TIED CARD OF 'anchorholdlaw29.ScriptBack'. -/
def scriptBackCard : Claim7 := { stood := { row := scriptBackRow, standIns := [], harness := (true, "c082c60409e0631f567a4130440274dce6793ae772a204c95c358d5725db377b"), looks := false }, kinds := [], alts := [], laidByText := true, laidKinds := [.data, .pinned], laidTests := true, laidLooks := .later }
def ScriptBackCardSaid : Prop := Claim7.holds Tryd.pinned (.plain (OpenSpec.ofChange scriptBackSpec)) scriptBackCard

/-- THE TIED CARD OF 'anchorholdlaw29.ScriptSame'. -/
def scriptSameCard : Claim7 := { stood := { row := scriptSameRow, standIns := [], harness := (true, "c082c60409e0631f567a4130440274dce6793ae772a204c95c358d5725db377b"), looks := false }, kinds := [], alts := [], laidByText := true, laidKinds := [.data, .pinned], laidTests := true, laidLooks := .later }
def ScriptSameCardSaid : Prop := Claim7.holds Tryd.pinned (.plain (OpenSpec.ofChange scriptSameSpec)) scriptSameCard

/-- THE TIED CARD OF 'anchorholdlaw34.SetupBack'. -/
def setupBackCard : Claim7 := { stood := { row := setupBackRow, standIns := [], harness := (true, "c082c60409e0631f567a4130440274dce6793ae772a204c95c358d5725db377b"), looks := false }, kinds := [], alts := [], laidByText := true, laidKinds := [.data, .pinned], laidTests := true, laidLooks := .later }
def SetupBackCardSaid : Prop := Claim7.holds Tryd.pinned (.plain (OpenSpec.ofChange setupBackSpec)) setupBackCard

/-- THE TIED CARD OF 'anchorholdlaw34.SetupOnce'. -/
def setupOnceCard : Claim7 := { stood := { row := setupOnceRow, standIns := [], harness := (true, "c082c60409e0631f567a4130440274dce6793ae772a204c95c358d5725db377b"), looks := false }, kinds := [], alts := [], laidByText := true, laidKinds := [.data, .pinned], laidTests := true, laidLooks := .later }
def SetupOnceCardSaid : Prop := Claim7.holds Tryd.pinned (.plain (OpenSpec.ofChange setupOnceSpec)) setupOnceCard

/-- THE SECOND FORM's CARD OF 'anchorholdlaw28.TracePrints'. -/
def tracePrintsUptoCard : Claim7 := { stood := { row := tracePrintsUptoRow, standIns := [], harness := (true, "c082c60409e0631f567a4130440274dce6793ae772a204c95c358d5725db377b"), looks := false }, kinds := [], alts := [], laidByText := true, laidKinds := [.data, .pinned], laidTests := true, laidLooks := .later }
def TracePrintsUptoCardSaid : Prop := Claim7.holds Tryd.pinned (.plain (OpenSpec.upto tracePrintsSpec)) tracePrintsUptoCard

/-- THE SECOND FORM's CARD OF 'anchorholdlaw28.TraceReads'. -/
def traceReadsUptoCard : Claim7 := { stood := { row := traceReadsUptoRow, standIns := [], harness := (true, "c082c60409e0631f567a4130440274dce6793ae772a204c95c358d5725db377b"), looks := false }, kinds := [], alts := [], laidByText := true, laidKinds := [.data, .pinned], laidTests := true, laidLooks := .later }
def TraceReadsUptoCardSaid : Prop := Claim7.holds Tryd.pinned (.plain (OpenSpec.upto traceReadsSpec)) traceReadsUptoCard

/-- THE SECOND FORM's CARD OF 'anchorholdlaw28.TraceBack'. -/
def traceBackUptoCard : Claim7 := { stood := { row := traceBackUptoRow, standIns := [], harness := (true, "c082c60409e0631f567a4130440274dce6793ae772a204c95c358d5725db377b"), looks := false }, kinds := [], alts := [], laidByText := true, laidKinds := [.data, .pinned], laidTests := true, laidLooks := .later }
def TraceBackUptoCardSaid : Prop := Claim7.holds Tryd.pinned (.plain (OpenSpec.upto traceBackSpec)) traceBackUptoCard

/-- THE SECOND FORM's CARD OF 'anchorholdlaw28.TraceWindows'. -/
def traceWindowsUptoCard : Claim7 := { stood := { row := traceWindowsUptoRow, standIns := [], harness := (true, "c082c60409e0631f567a4130440274dce6793ae772a204c95c358d5725db377b"), looks := false }, kinds := [], alts := [], laidByText := true, laidKinds := [.data, .pinned], laidTests := true, laidLooks := .later }
def TraceWindowsUptoCardSaid : Prop := Claim7.holds Tryd.pinned (.plain (OpenSpec.upto traceWindowsSpec)) traceWindowsUptoCard

/-- THE SECOND FORM's CARD OF 'anchorholdlaw29.ScriptPrints'. -/
def scriptPrintsUptoCard : Claim7 := { stood := { row := scriptPrintsUptoRow, standIns := [], harness := (true, "c082c60409e0631f567a4130440274dce6793ae772a204c95c358d5725db377b"), looks := false }, kinds := [], alts := [], laidByText := true, laidKinds := [.data, .pinned], laidTests := true, laidLooks := .later }
def ScriptPrintsUptoCardSaid : Prop := Claim7.holds Tryd.pinned (.plain (OpenSpec.upto scriptPrintsSpec)) scriptPrintsUptoCard

/-- THE SECOND FORM's CARD OF 'anchorholdlaw29.ScriptReads'. -/
def scriptReadsUptoCard : Claim7 := { stood := { row := scriptReadsUptoRow, standIns := [], harness := (true, "c082c60409e0631f567a4130440274dce6793ae772a204c95c358d5725db377b"), looks := false }, kinds := [], alts := [], laidByText := true, laidKinds := [.data, .pinned], laidTests := true, laidLooks := .later }
def ScriptReadsUptoCardSaid : Prop := Claim7.holds Tryd.pinned (.plain (OpenSpec.upto scriptReadsSpec)) scriptReadsUptoCard

/-- THE SECOND FORM's CARD OF 'anchorholdlaw29.ScriptBack'. -/
def scriptBackUptoCard : Claim7 := { stood := { row := scriptBackUptoRow, standIns := [], harness := (true, "c082c60409e0631f567a4130440274dce6793ae772a204c95c358d5725db377b"), looks := false }, kinds := [], alts := [], laidByText := true, laidKinds := [.data, .pinned], laidTests := true, laidLooks := .later }
def ScriptBackUptoCardSaid : Prop := Claim7.holds Tryd.pinned (.plain (OpenSpec.upto scriptBackSpec)) scriptBackUptoCard

/-- THE SECOND FORM's CARD OF 'anchorholdlaw29.ScriptSame'. -/
def scriptSameUptoCard : Claim7 := { stood := { row := scriptSameUptoRow, standIns := [], harness := (true, "c082c60409e0631f567a4130440274dce6793ae772a204c95c358d5725db377b"), looks := false }, kinds := [], alts := [], laidByText := true, laidKinds := [.data, .pinned], laidTests := true, laidLooks := .later }
def ScriptSameUptoCardSaid : Prop := Claim7.holds Tryd.pinned (.plain (OpenSpec.upto scriptSameSpec)) scriptSameUptoCard

/-- THE SECOND FORM's CARD OF 'anchorholdlaw34.SetupBack'. -/
def setupBackUptoCard : Claim7 := { stood := { row := setupBackUptoRow, standIns := [], harness := (true, "c082c60409e0631f567a4130440274dce6793ae772a204c95c358d5725db377b"), looks := false }, kinds := [], alts := [], laidByText := true, laidKinds := [.data, .pinned], laidTests := true, laidLooks := .later }
def SetupBackUptoCardSaid : Prop := Claim7.holds Tryd.pinned (.plain (OpenSpec.upto setupBackSpec)) setupBackUptoCard

/-- THE SECOND FORM's CARD OF 'anchorholdlaw34.SetupOnce'. -/
def setupOnceUptoCard : Claim7 := { stood := { row := setupOnceUptoRow, standIns := [], harness := (true, "c082c60409e0631f567a4130440274dce6793ae772a204c95c358d5725db377b"), looks := false }, kinds := [], alts := [], laidByText := true, laidKinds := [.data, .pinned], laidTests := true, laidLooks := .later }
def SetupOnceUptoCardSaid : Prop := Claim7.holds Tryd.pinned (.plain (OpenSpec.upto setupOnceSpec)) setupOnceUptoCard
end Rows
end Go.Proofs.YtgkhjgpgdfbdpaaDoor
