/-
  DERIVED. GIVEN WITH THE SEED: THE CARDS: each row of YtncfjplolpgemaaDoorRows.lean that lists a variable, with what it lists TIED to the program's text (the seventh form; the later family's looks); each row that meets fmt, with fmt's text TOLD by the authors' own Lean function (tested against real Go, not proved from fmt's source: count such statements apart). THE CARD IS WHAT COUNTS. Prove the row's statement (the work); the ties are given (YtncfjplolpgemaaDoorTie.lean); close each card by the builder's one call (the guide's Derived/Test/ToyasCard.lean, 'card_holds'). Laid BY PROGRAM, IN A SANDBOX (cutbox-door.mjs). By AI agents, Wed Nov 11 2026. No macro, syntax, notation, axiom, sorry.
-/
import Derived.Test.YtncfjplolpgemaaDoorRows
import GoSem.ClaimSeven
namespace Go.Proofs.YtncfjplolpgemaaDoor
namespace Rows

/-- THE TIED CARD OF 'hustingslaw07.WireBack'. -/
def wireBackCard : Claim7 := { stood := { row := wireBackRow, standIns := [], harness := (true, "75ea6df952a7feb0ef3cd7fc41b014df92bc764fde22cc56f1dcb85006f21cd4"), looks := true }, kinds := [], alts := [], laidByText := true, laidKinds := [.handle, .data], laidTests := true, laidLooks := .later }
def WireBackCardSaid : Prop := Claim7.holds Tryd.pinned (.plain (OpenSpec.ofChange wireBackSpec)) wireBackCard

/-- THE TIED CARD OF 'hustingslaw07.WireCut'. -/
def wireCutCard : Claim7 := { stood := { row := wireCutRow, standIns := [], harness := (true, "75ea6df952a7feb0ef3cd7fc41b014df92bc764fde22cc56f1dcb85006f21cd4"), looks := true }, kinds := [], alts := [], laidByText := true, laidKinds := [.handle, .data], laidTests := true, laidLooks := .later }
def WireCutCardSaid : Prop := Claim7.holds Tryd.pinned (.plain (OpenSpec.ofChange wireCutSpec)) wireCutCard

/-- THE TIED CARD OF 'hustingslaw07.WireParts'. -/
def wirePartsCard : Claim7 := { stood := { row := wirePartsRow, standIns := [], harness := (true, "75ea6df952a7feb0ef3cd7fc41b014df92bc764fde22cc56f1dcb85006f21cd4"), looks := true }, kinds := [], alts := [], laidByText := true, laidKinds := [.handle, .data], laidTests := true, laidLooks := .later }
def WirePartsCardSaid : Prop := Claim7.holds Tryd.pinned (.plain (OpenSpec.ofChange wirePartsSpec)) wirePartsCard

/-- THE TIED CARD OF 'hustingslaw07.WireSame'. -/
def wireSameCard : Claim7 := { stood := { row := wireSameRow, standIns := [], harness := (true, "75ea6df952a7feb0ef3cd7fc41b014df92bc764fde22cc56f1dcb85006f21cd4"), looks := true }, kinds := [], alts := [], laidByText := true, laidKinds := [.handle, .data], laidTests := true, laidLooks := .later }
def WireSameCardSaid : Prop := Claim7.holds Tryd.pinned (.plain (OpenSpec.ofChange wireSameSpec)) wireSameCard

/-- THE TIED CARD OF 'hustingslaw07.WireNames'. -/
def wireNamesCard : Claim7 := { stood := { row := wireNamesRow, standIns := [], harness := (true, "75ea6df952a7feb0ef3cd7fc41b014df92bc764fde22cc56f1dcb85006f21cd4"), looks := true }, kinds := [], alts := [], laidByText := true, laidKinds := [.handle, .data], laidTests := true, laidLooks := .later }
def WireNamesCardSaid : Prop := Claim7.holds Tryd.pinned (.plain (OpenSpec.ofChange wireNamesSpec)) wireNamesCard

/-- THE TIED CARD OF 'hustingslaw07.WireWithin'. -/
def wireWithinCard : Claim7 := { stood := { row := wireWithinRow, standIns := [], harness := (true, "75ea6df952a7feb0ef3cd7fc41b014df92bc764fde22cc56f1dcb85006f21cd4"), looks := true }, kinds := [], alts := [], laidByText := true, laidKinds := [.handle, .data], laidTests := true, laidLooks := .later }
def WireWithinCardSaid : Prop := Claim7.holds Tryd.pinned (.plain (OpenSpec.ofChange wireWithinSpec)) wireWithinCard

/-- THE SECOND FORM's CARD OF 'hustingslaw07.WireBack'. -/
def wireBackUptoCard : Claim7 := { stood := { row := wireBackUptoRow, standIns := [], harness := (true, "75ea6df952a7feb0ef3cd7fc41b014df92bc764fde22cc56f1dcb85006f21cd4"), looks := true }, kinds := [], alts := [], laidByText := true, laidKinds := [.handle, .data], laidTests := true, laidLooks := .later }
def WireBackUptoCardSaid : Prop := Claim7.holds Tryd.pinned (.plain (OpenSpec.upto wireBackSpec)) wireBackUptoCard

/-- THE SECOND FORM's CARD OF 'hustingslaw07.WireCut'. -/
def wireCutUptoCard : Claim7 := { stood := { row := wireCutUptoRow, standIns := [], harness := (true, "75ea6df952a7feb0ef3cd7fc41b014df92bc764fde22cc56f1dcb85006f21cd4"), looks := true }, kinds := [], alts := [], laidByText := true, laidKinds := [.handle, .data], laidTests := true, laidLooks := .later }
def WireCutUptoCardSaid : Prop := Claim7.holds Tryd.pinned (.plain (OpenSpec.upto wireCutSpec)) wireCutUptoCard

/-- THE SECOND FORM's CARD OF 'hustingslaw07.WireParts'. -/
def wirePartsUptoCard : Claim7 := { stood := { row := wirePartsUptoRow, standIns := [], harness := (true, "75ea6df952a7feb0ef3cd7fc41b014df92bc764fde22cc56f1dcb85006f21cd4"), looks := true }, kinds := [], alts := [], laidByText := true, laidKinds := [.handle, .data], laidTests := true, laidLooks := .later }
def WirePartsUptoCardSaid : Prop := Claim7.holds Tryd.pinned (.plain (OpenSpec.upto wirePartsSpec)) wirePartsUptoCard

/-- THE SECOND FORM's CARD OF 'hustingslaw07.WireSame'. -/
def wireSameUptoCard : Claim7 := { stood := { row := wireSameUptoRow, standIns := [], harness := (true, "75ea6df952a7feb0ef3cd7fc41b014df92bc764fde22cc56f1dcb85006f21cd4"), looks := true }, kinds := [], alts := [], laidByText := true, laidKinds := [.handle, .data], laidTests := true, laidLooks := .later }
def WireSameUptoCardSaid : Prop := Claim7.holds Tryd.pinned (.plain (OpenSpec.upto wireSameSpec)) wireSameUptoCard

/-- THE SECOND FORM's CARD OF 'hustingslaw07.WireNames'. -/
def wireNamesUptoCard : Claim7 := { stood := { row := wireNamesUptoRow, standIns := [], harness := (true, "75ea6df952a7feb0ef3cd7fc41b014df92bc764fde22cc56f1dcb85006f21cd4"), looks := true }, kinds := [], alts := [], laidByText := true, laidKinds := [.handle, .data], laidTests := true, laidLooks := .later }
def WireNamesUptoCardSaid : Prop := Claim7.holds Tryd.pinned (.plain (OpenSpec.upto wireNamesSpec)) wireNamesUptoCard

/-- THE SECOND FORM's CARD OF 'hustingslaw07.WireWithin'. -/
def wireWithinUptoCard : Claim7 := { stood := { row := wireWithinUptoRow, standIns := [], harness := (true, "75ea6df952a7feb0ef3cd7fc41b014df92bc764fde22cc56f1dcb85006f21cd4"), looks := true }, kinds := [], alts := [], laidByText := true, laidKinds := [.handle, .data], laidTests := true, laidLooks := .later }
def WireWithinUptoCardSaid : Prop := Claim7.holds Tryd.pinned (.plain (OpenSpec.upto wireWithinSpec)) wireWithinUptoCard
end Rows
end Go.Proofs.YtncfjplolpgemaaDoor
