/-
  DERIVED. GIVEN WITH THE SEED: THE CARDS: each row of YtjjegmgjnfkblaaDoorRows.lean that lists a variable, with what it lists TIED to the program's text (the seventh form; the later family's looks); each row that meets fmt, with fmt's text TOLD by the authors' own Lean function (tested against real Go, not proved from fmt's source: count such statements apart). THE CARD IS WHAT COUNTS. Prove the row's statement (the work); the ties are given (YtjjegmgjnfkblaaDoorTie.lean); close each card by the builder's one call (the guide's Derived/Test/ToyasCard.lean, 'card_holds'). Laid BY PROGRAM, IN A SANDBOX (cutbox-door.mjs). By AI agents, Wed Nov 11 2026. No macro, syntax, notation, axiom, sorry.
-/
import Derived.Test.YtjjegmgjnfkblaaDoorRows
import GoSem.ClaimSeven
namespace Go.Proofs.YtjjegmgjnfkblaaDoor
namespace Rows

/-- THE TIED CARD OF 'hustingslaw04.CompReads'. -/
def compReadsCard : Claim7 := { stood := { row := compReadsRow, standIns := [], harness := (true, "a7bc4f3978db6b02020455a7aeaf5b1c37dc74959cbaf33d3049839feb16ed4c"), looks := true }, kinds := [], alts := [], laidByText := true, laidKinds := [.handle], laidTests := true, laidLooks := .later }
def CompReadsCardSaid : Prop := Claim7.holds Tryd.pinned (.plain (OpenSpec.ofChange compReadsSpec)) compReadsCard

/-- THE TIED CARD OF 'hustingslaw04.CompBack'. -/
def compBackCard : Claim7 := { stood := { row := compBackRow, standIns := [], harness := (true, "a7bc4f3978db6b02020455a7aeaf5b1c37dc74959cbaf33d3049839feb16ed4c"), looks := true }, kinds := [], alts := [], laidByText := true, laidKinds := [.handle], laidTests := true, laidLooks := .later }
def CompBackCardSaid : Prop := Claim7.holds Tryd.pinned (.plain (OpenSpec.ofChange compBackSpec)) compBackCard

/-- THE TIED CARD OF 'hustingslaw04.CompLess'. -/
def compLessCard : Claim7 := { stood := { row := compLessRow, standIns := [], harness := (true, "a7bc4f3978db6b02020455a7aeaf5b1c37dc74959cbaf33d3049839feb16ed4c"), looks := true }, kinds := [], alts := [], laidByText := true, laidKinds := [.handle], laidTests := true, laidLooks := .later }
def CompLessCardSaid : Prop := Claim7.holds Tryd.pinned (.plain (OpenSpec.ofChange compLessSpec)) compLessCard

/-- THE TIED CARD OF 'hustingslaw04.CompBehind'. -/
def compBehindCard : Claim7 := { stood := { row := compBehindRow, standIns := [], harness := (true, "a7bc4f3978db6b02020455a7aeaf5b1c37dc74959cbaf33d3049839feb16ed4c"), looks := true }, kinds := [], alts := [], laidByText := true, laidKinds := [.handle], laidTests := true, laidLooks := .later }
def CompBehindCardSaid : Prop := Claim7.holds Tryd.pinned (.plain (OpenSpec.ofChange compBehindSpec)) compBehindCard

/-- THE TIED CARD OF 'hustingslaw04.CompAs'. -/
def compAsCard : Claim7 := { stood := { row := compAsRow, standIns := [], harness := (true, "a7bc4f3978db6b02020455a7aeaf5b1c37dc74959cbaf33d3049839feb16ed4c"), looks := true }, kinds := [], alts := [], laidByText := true, laidKinds := [.handle], laidTests := true, laidLooks := .later }
def CompAsCardSaid : Prop := Claim7.holds Tryd.pinned (.plain (OpenSpec.ofChange compAsSpec)) compAsCard

/-- THE TIED CARD OF 'hustingslaw04.CompPuts'. -/
def compPutsCard : Claim7 := { stood := { row := compPutsRow, standIns := [], harness := (true, "a7bc4f3978db6b02020455a7aeaf5b1c37dc74959cbaf33d3049839feb16ed4c"), looks := true }, kinds := [], alts := [], laidByText := true, laidKinds := [.handle], laidTests := true, laidLooks := .later }
def CompPutsCardSaid : Prop := Claim7.holds Tryd.pinned (.plain (OpenSpec.ofChange compPutsSpec)) compPutsCard

/-- THE TIED CARD OF 'hustingslaw04.CompNames'. -/
def compNamesCard : Claim7 := { stood := { row := compNamesRow, standIns := [], harness := (true, "a7bc4f3978db6b02020455a7aeaf5b1c37dc74959cbaf33d3049839feb16ed4c"), looks := true }, kinds := [], alts := [], laidByText := true, laidKinds := [.handle], laidTests := true, laidLooks := .later }
def CompNamesCardSaid : Prop := Claim7.holds Tryd.pinned (.plain (OpenSpec.ofChange compNamesSpec)) compNamesCard

/-- THE SECOND FORM's CARD OF 'hustingslaw04.CompReads'. -/
def compReadsUptoCard : Claim7 := { stood := { row := compReadsUptoRow, standIns := [], harness := (true, "a7bc4f3978db6b02020455a7aeaf5b1c37dc74959cbaf33d3049839feb16ed4c"), looks := true }, kinds := [], alts := [], laidByText := true, laidKinds := [.handle], laidTests := true, laidLooks := .later }
def CompReadsUptoCardSaid : Prop := Claim7.holds Tryd.pinned (.plain (OpenSpec.upto compReadsSpec)) compReadsUptoCard

/-- THE SECOND FORM's CARD OF 'hustingslaw04.CompBack'. -/
def compBackUptoCard : Claim7 := { stood := { row := compBackUptoRow, standIns := [], harness := (true, "a7bc4f3978db6b02020455a7aeaf5b1c37dc74959cbaf33d3049839feb16ed4c"), looks := true }, kinds := [], alts := [], laidByText := true, laidKinds := [.handle], laidTests := true, laidLooks := .later }
def CompBackUptoCardSaid : Prop := Claim7.holds Tryd.pinned (.plain (OpenSpec.upto compBackSpec)) compBackUptoCard

/-- THE SECOND FORM's CARD OF 'hustingslaw04.CompLess'. -/
def compLessUptoCard : Claim7 := { stood := { row := compLessUptoRow, standIns := [], harness := (true, "a7bc4f3978db6b02020455a7aeaf5b1c37dc74959cbaf33d3049839feb16ed4c"), looks := true }, kinds := [], alts := [], laidByText := true, laidKinds := [.handle], laidTests := true, laidLooks := .later }
def CompLessUptoCardSaid : Prop := Claim7.holds Tryd.pinned (.plain (OpenSpec.upto compLessSpec)) compLessUptoCard

/-- THE SECOND FORM's CARD OF 'hustingslaw04.CompBehind'. -/
def compBehindUptoCard : Claim7 := { stood := { row := compBehindUptoRow, standIns := [], harness := (true, "a7bc4f3978db6b02020455a7aeaf5b1c37dc74959cbaf33d3049839feb16ed4c"), looks := true }, kinds := [], alts := [], laidByText := true, laidKinds := [.handle], laidTests := true, laidLooks := .later }
def CompBehindUptoCardSaid : Prop := Claim7.holds Tryd.pinned (.plain (OpenSpec.upto compBehindSpec)) compBehindUptoCard

/-- THE SECOND FORM's CARD OF 'hustingslaw04.CompAs'. -/
def compAsUptoCard : Claim7 := { stood := { row := compAsUptoRow, standIns := [], harness := (true, "a7bc4f3978db6b02020455a7aeaf5b1c37dc74959cbaf33d3049839feb16ed4c"), looks := true }, kinds := [], alts := [], laidByText := true, laidKinds := [.handle], laidTests := true, laidLooks := .later }
def CompAsUptoCardSaid : Prop := Claim7.holds Tryd.pinned (.plain (OpenSpec.upto compAsSpec)) compAsUptoCard

/-- THE SECOND FORM's CARD OF 'hustingslaw04.CompPuts'. -/
def compPutsUptoCard : Claim7 := { stood := { row := compPutsUptoRow, standIns := [], harness := (true, "a7bc4f3978db6b02020455a7aeaf5b1c37dc74959cbaf33d3049839feb16ed4c"), looks := true }, kinds := [], alts := [], laidByText := true, laidKinds := [.handle], laidTests := true, laidLooks := .later }
def CompPutsUptoCardSaid : Prop := Claim7.holds Tryd.pinned (.plain (OpenSpec.upto compPutsSpec)) compPutsUptoCard

/-- THE SECOND FORM's CARD OF 'hustingslaw04.CompNames'. -/
def compNamesUptoCard : Claim7 := { stood := { row := compNamesUptoRow, standIns := [], harness := (true, "a7bc4f3978db6b02020455a7aeaf5b1c37dc74959cbaf33d3049839feb16ed4c"), looks := true }, kinds := [], alts := [], laidByText := true, laidKinds := [.handle], laidTests := true, laidLooks := .later }
def CompNamesUptoCardSaid : Prop := Claim7.holds Tryd.pinned (.plain (OpenSpec.upto compNamesSpec)) compNamesUptoCard
end Rows
end Go.Proofs.YtjjegmgjnfkblaaDoor
