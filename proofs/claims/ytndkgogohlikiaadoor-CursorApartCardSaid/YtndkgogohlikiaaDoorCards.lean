/-
  DERIVED. GIVEN WITH THE SEED: THE CARDS: each row of YtndkgogohlikiaaDoorRows.lean that lists a variable, with what it lists TIED to the program's text (the seventh form; the later family's looks); each row that meets fmt, with fmt's text TOLD by the authors' own Lean function (tested against real Go, not proved from fmt's source: count such statements apart). THE CARD IS WHAT COUNTS. Prove the row's statement (the work); the ties are given (YtndkgogohlikiaaDoorTie.lean); close each card by the builder's one call (the guide's Derived/Test/ToyasCard.lean, 'card_holds'). Laid BY PROGRAM, IN A SANDBOX (cutbox-door.mjs). By AI agents, Wed Nov 11 2026. No macro, syntax, notation, axiom, sorry.
-/
import Derived.Test.YtndkgogohlikiaaDoorRows
import GoSem.ClaimSeven
namespace Go.Proofs.YtndkgogohlikiaaDoor
namespace Rows

/-- THE TIED CARD OF 'hustingslaw02.CursorParts'. -/
def cursorPartsCard : Claim7 := { stood := { row := cursorPartsRow, standIns := [], harness := (true, "4f2058b7ac847839c5e5cb9d8aff3d6a0df1964111e126b36a3cbde2a7207c1e"), looks := true }, kinds := [], alts := [], laidByText := true, laidKinds := [.handle], laidTests := true, laidLooks := .later }
def CursorPartsCardSaid : Prop := Claim7.holds Tryd.pinned (.plain (OpenSpec.ofChange cursorPartsSpec)) cursorPartsCard

/-- THE TIED CARD OF 'hustingslaw02.CursorPuts'. -/
def cursorPutsCard : Claim7 := { stood := { row := cursorPutsRow, standIns := [], harness := (true, "4f2058b7ac847839c5e5cb9d8aff3d6a0df1964111e126b36a3cbde2a7207c1e"), looks := true }, kinds := [], alts := [], laidByText := true, laidKinds := [.handle], laidTests := true, laidLooks := .later }
def CursorPutsCardSaid : Prop := Claim7.holds Tryd.pinned (.plain (OpenSpec.ofChange cursorPutsSpec)) cursorPutsCard

/-- THE TIED CARD OF 'hustingslaw02.CursorApart'. -/
def cursorApartCard : Claim7 := { stood := { row := cursorApartRow, standIns := [], harness := (true, "4f2058b7ac847839c5e5cb9d8aff3d6a0df1964111e126b36a3cbde2a7207c1e"), looks := true }, kinds := [], alts := [], laidByText := true, laidKinds := [.handle], laidTests := true, laidLooks := .later }
def CursorApartCardSaid : Prop := Claim7.holds Tryd.pinned (.plain (OpenSpec.ofChange cursorApartSpec)) cursorApartCard

/-- THE TIED CARD OF 'hustingslaw02.CursorReads'. -/
def cursorReadsCard : Claim7 := { stood := { row := cursorReadsRow, standIns := [], harness := (true, "4f2058b7ac847839c5e5cb9d8aff3d6a0df1964111e126b36a3cbde2a7207c1e"), looks := true }, kinds := [], alts := [], laidByText := true, laidKinds := [.handle], laidTests := true, laidLooks := .later }
def CursorReadsCardSaid : Prop := Claim7.holds Tryd.pinned (.plain (OpenSpec.ofChange cursorReadsSpec)) cursorReadsCard

/-- THE TIED CARD OF 'hustingslaw02.CursorPlaces'. -/
def cursorPlacesCard : Claim7 := { stood := { row := cursorPlacesRow, standIns := [], harness := (true, "4f2058b7ac847839c5e5cb9d8aff3d6a0df1964111e126b36a3cbde2a7207c1e"), looks := true }, kinds := [], alts := [], laidByText := true, laidKinds := [.handle], laidTests := true, laidLooks := .later }
def CursorPlacesCardSaid : Prop := Claim7.holds Tryd.pinned (.plain (OpenSpec.ofChange cursorPlacesSpec)) cursorPlacesCard

/-- THE TIED CARD OF 'hustingslaw02.CursorNames'. -/
def cursorNamesCard : Claim7 := { stood := { row := cursorNamesRow, standIns := [], harness := (true, "4f2058b7ac847839c5e5cb9d8aff3d6a0df1964111e126b36a3cbde2a7207c1e"), looks := true }, kinds := [], alts := [], laidByText := true, laidKinds := [.handle], laidTests := true, laidLooks := .later }
def CursorNamesCardSaid : Prop := Claim7.holds Tryd.pinned (.plain (OpenSpec.ofChange cursorNamesSpec)) cursorNamesCard

/-- THE TIED CARD OF 'hustingslaw02.CursorBack'. -/
def cursorBackCard : Claim7 := { stood := { row := cursorBackRow, standIns := [], harness := (true, "4f2058b7ac847839c5e5cb9d8aff3d6a0df1964111e126b36a3cbde2a7207c1e"), looks := true }, kinds := [], alts := [], laidByText := true, laidKinds := [.handle], laidTests := true, laidLooks := .later }
def CursorBackCardSaid : Prop := Claim7.holds Tryd.pinned (.plain (OpenSpec.ofChange cursorBackSpec)) cursorBackCard

/-- THE SECOND FORM's CARD OF 'hustingslaw02.CursorParts'. -/
def cursorPartsUptoCard : Claim7 := { stood := { row := cursorPartsUptoRow, standIns := [], harness := (true, "4f2058b7ac847839c5e5cb9d8aff3d6a0df1964111e126b36a3cbde2a7207c1e"), looks := true }, kinds := [], alts := [], laidByText := true, laidKinds := [.handle], laidTests := true, laidLooks := .later }
def CursorPartsUptoCardSaid : Prop := Claim7.holds Tryd.pinned (.plain (OpenSpec.upto cursorPartsSpec)) cursorPartsUptoCard

/-- THE SECOND FORM's CARD OF 'hustingslaw02.CursorPuts'. -/
def cursorPutsUptoCard : Claim7 := { stood := { row := cursorPutsUptoRow, standIns := [], harness := (true, "4f2058b7ac847839c5e5cb9d8aff3d6a0df1964111e126b36a3cbde2a7207c1e"), looks := true }, kinds := [], alts := [], laidByText := true, laidKinds := [.handle], laidTests := true, laidLooks := .later }
def CursorPutsUptoCardSaid : Prop := Claim7.holds Tryd.pinned (.plain (OpenSpec.upto cursorPutsSpec)) cursorPutsUptoCard

/-- THE SECOND FORM's CARD OF 'hustingslaw02.CursorApart'. -/
def cursorApartUptoCard : Claim7 := { stood := { row := cursorApartUptoRow, standIns := [], harness := (true, "4f2058b7ac847839c5e5cb9d8aff3d6a0df1964111e126b36a3cbde2a7207c1e"), looks := true }, kinds := [], alts := [], laidByText := true, laidKinds := [.handle], laidTests := true, laidLooks := .later }
def CursorApartUptoCardSaid : Prop := Claim7.holds Tryd.pinned (.plain (OpenSpec.upto cursorApartSpec)) cursorApartUptoCard

/-- THE SECOND FORM's CARD OF 'hustingslaw02.CursorReads'. -/
def cursorReadsUptoCard : Claim7 := { stood := { row := cursorReadsUptoRow, standIns := [], harness := (true, "4f2058b7ac847839c5e5cb9d8aff3d6a0df1964111e126b36a3cbde2a7207c1e"), looks := true }, kinds := [], alts := [], laidByText := true, laidKinds := [.handle], laidTests := true, laidLooks := .later }
def CursorReadsUptoCardSaid : Prop := Claim7.holds Tryd.pinned (.plain (OpenSpec.upto cursorReadsSpec)) cursorReadsUptoCard

/-- THE SECOND FORM's CARD OF 'hustingslaw02.CursorPlaces'. -/
def cursorPlacesUptoCard : Claim7 := { stood := { row := cursorPlacesUptoRow, standIns := [], harness := (true, "4f2058b7ac847839c5e5cb9d8aff3d6a0df1964111e126b36a3cbde2a7207c1e"), looks := true }, kinds := [], alts := [], laidByText := true, laidKinds := [.handle], laidTests := true, laidLooks := .later }
def CursorPlacesUptoCardSaid : Prop := Claim7.holds Tryd.pinned (.plain (OpenSpec.upto cursorPlacesSpec)) cursorPlacesUptoCard

/-- THE SECOND FORM's CARD OF 'hustingslaw02.CursorNames'. -/
def cursorNamesUptoCard : Claim7 := { stood := { row := cursorNamesUptoRow, standIns := [], harness := (true, "4f2058b7ac847839c5e5cb9d8aff3d6a0df1964111e126b36a3cbde2a7207c1e"), looks := true }, kinds := [], alts := [], laidByText := true, laidKinds := [.handle], laidTests := true, laidLooks := .later }
def CursorNamesUptoCardSaid : Prop := Claim7.holds Tryd.pinned (.plain (OpenSpec.upto cursorNamesSpec)) cursorNamesUptoCard

/-- THE SECOND FORM's CARD OF 'hustingslaw02.CursorBack'. -/
def cursorBackUptoCard : Claim7 := { stood := { row := cursorBackUptoRow, standIns := [], harness := (true, "4f2058b7ac847839c5e5cb9d8aff3d6a0df1964111e126b36a3cbde2a7207c1e"), looks := true }, kinds := [], alts := [], laidByText := true, laidKinds := [.handle], laidTests := true, laidLooks := .later }
def CursorBackUptoCardSaid : Prop := Claim7.holds Tryd.pinned (.plain (OpenSpec.upto cursorBackSpec)) cursorBackUptoCard
end Rows
end Go.Proofs.YtndkgogohlikiaaDoor
