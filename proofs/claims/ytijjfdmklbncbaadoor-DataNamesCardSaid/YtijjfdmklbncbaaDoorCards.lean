/-
  DERIVED. GIVEN WITH THE SEED: THE CARDS: each row of YtijjfdmklbncbaaDoorRows.lean that lists a variable, with what it lists TIED to the program's text (the seventh form; the later family's looks); each row that meets fmt, with fmt's text TOLD by the authors' own Lean function (tested against real Go, not proved from fmt's source: count such statements apart). THE CARD IS WHAT COUNTS. Prove the row's statement (the work); the ties are given (YtijjfdmklbncbaaDoorTie.lean); close each card by the builder's one call (the guide's Derived/Test/ToyasCard.lean, 'card_holds'). Laid BY PROGRAM, IN A SANDBOX (cutbox-door.mjs). By AI agents, Wed Nov 11 2026. No macro, syntax, notation, axiom, sorry.
-/
import Derived.Test.YtijjfdmklbncbaaDoorRows
import GoSem.ClaimSeven
namespace Go.Proofs.YtijjfdmklbncbaaDoor
namespace Rows

/-- THE TIED CARD OF 'hustingslaw05.DataReads'. -/
def dataReadsCard : Claim7 := { stood := { row := dataReadsRow, standIns := [], harness := (true, "56614159cacf6db49bffbb76ac655664a02d15cbe8582b4083deb3baf6d6b5ce"), looks := true }, kinds := [], alts := [], laidByText := true, laidKinds := [.handle], laidTests := true, laidLooks := .later }
def DataReadsCardSaid : Prop := Claim7.holds Tryd.pinned (.plain (OpenSpec.ofChange dataReadsSpec)) dataReadsCard

/-- THE TIED CARD OF 'hustingslaw05.DataWrites'. -/
def dataWritesCard : Claim7 := { stood := { row := dataWritesRow, standIns := [], harness := (true, "56614159cacf6db49bffbb76ac655664a02d15cbe8582b4083deb3baf6d6b5ce"), looks := true }, kinds := [], alts := [], laidByText := true, laidKinds := [.handle], laidTests := true, laidLooks := .later }
def DataWritesCardSaid : Prop := Claim7.holds Tryd.pinned (.plain (OpenSpec.ofChange dataWritesSpec)) dataWritesCard

/-- THE TIED CARD OF 'hustingslaw05.DataBack'. -/
def dataBackCard : Claim7 := { stood := { row := dataBackRow, standIns := [], harness := (true, "56614159cacf6db49bffbb76ac655664a02d15cbe8582b4083deb3baf6d6b5ce"), looks := true }, kinds := [], alts := [], laidByText := true, laidKinds := [.handle], laidTests := true, laidLooks := .later }
def DataBackCardSaid : Prop := Claim7.holds Tryd.pinned (.plain (OpenSpec.ofChange dataBackSpec)) dataBackCard

/-- THE TIED CARD OF 'hustingslaw05.DataWhole'. -/
def dataWholeCard : Claim7 := { stood := { row := dataWholeRow, standIns := [], harness := (true, "56614159cacf6db49bffbb76ac655664a02d15cbe8582b4083deb3baf6d6b5ce"), looks := true }, kinds := [], alts := [], laidByText := true, laidKinds := [.handle], laidTests := true, laidLooks := .later }
def DataWholeCardSaid : Prop := Claim7.holds Tryd.pinned (.plain (OpenSpec.ofChange dataWholeSpec)) dataWholeCard

/-- THE TIED CARD OF 'hustingslaw05.DataJust'. -/
def dataJustCard : Claim7 := { stood := { row := dataJustRow, standIns := [], harness := (true, "56614159cacf6db49bffbb76ac655664a02d15cbe8582b4083deb3baf6d6b5ce"), looks := true }, kinds := [], alts := [], laidByText := true, laidKinds := [.handle], laidTests := true, laidLooks := .later }
def DataJustCardSaid : Prop := Claim7.holds Tryd.pinned (.plain (OpenSpec.ofChange dataJustSpec)) dataJustCard

/-- THE TIED CARD OF 'hustingslaw05.DataNames'. -/
def dataNamesCard : Claim7 := { stood := { row := dataNamesRow, standIns := [], harness := (true, "56614159cacf6db49bffbb76ac655664a02d15cbe8582b4083deb3baf6d6b5ce"), looks := true }, kinds := [], alts := [], laidByText := true, laidKinds := [.handle], laidTests := true, laidLooks := .later }
def DataNamesCardSaid : Prop := Claim7.holds Tryd.pinned (.plain (OpenSpec.ofChange dataNamesSpec)) dataNamesCard

/-- THE TIED CARD OF 'hustingslaw05.DataTells'. -/
def dataTellsCard : Claim7 := { stood := { row := dataTellsRow, standIns := [], harness := (true, "56614159cacf6db49bffbb76ac655664a02d15cbe8582b4083deb3baf6d6b5ce"), looks := true }, kinds := [], alts := [], laidByText := true, laidKinds := [.handle], laidTests := true, laidLooks := .later }
def DataTellsCardSaid : Prop := Claim7.holds Tryd.pinned (.plain (OpenSpec.ofChange dataTellsSpec)) dataTellsCard

/-- THE TIED CARD OF 'hustingslaw05.DataFolded'. -/
def dataFoldedCard : Claim7 := { stood := { row := dataFoldedRow, standIns := [], harness := (true, "56614159cacf6db49bffbb76ac655664a02d15cbe8582b4083deb3baf6d6b5ce"), looks := true }, kinds := [], alts := [], laidByText := true, laidKinds := [.handle], laidTests := true, laidLooks := .later }
def DataFoldedCardSaid : Prop := Claim7.holds Tryd.pinned (.plain (OpenSpec.ofChange dataFoldedSpec)) dataFoldedCard

/-- THE SECOND FORM's CARD OF 'hustingslaw05.DataReads'. -/
def dataReadsUptoCard : Claim7 := { stood := { row := dataReadsUptoRow, standIns := [], harness := (true, "56614159cacf6db49bffbb76ac655664a02d15cbe8582b4083deb3baf6d6b5ce"), looks := true }, kinds := [], alts := [], laidByText := true, laidKinds := [.handle], laidTests := true, laidLooks := .later }
def DataReadsUptoCardSaid : Prop := Claim7.holds Tryd.pinned (.plain (OpenSpec.upto dataReadsSpec)) dataReadsUptoCard

/-- THE SECOND FORM's CARD OF 'hustingslaw05.DataWrites'. -/
def dataWritesUptoCard : Claim7 := { stood := { row := dataWritesUptoRow, standIns := [], harness := (true, "56614159cacf6db49bffbb76ac655664a02d15cbe8582b4083deb3baf6d6b5ce"), looks := true }, kinds := [], alts := [], laidByText := true, laidKinds := [.handle], laidTests := true, laidLooks := .later }
def DataWritesUptoCardSaid : Prop := Claim7.holds Tryd.pinned (.plain (OpenSpec.upto dataWritesSpec)) dataWritesUptoCard

/-- THE SECOND FORM's CARD OF 'hustingslaw05.DataBack'. -/
def dataBackUptoCard : Claim7 := { stood := { row := dataBackUptoRow, standIns := [], harness := (true, "56614159cacf6db49bffbb76ac655664a02d15cbe8582b4083deb3baf6d6b5ce"), looks := true }, kinds := [], alts := [], laidByText := true, laidKinds := [.handle], laidTests := true, laidLooks := .later }
def DataBackUptoCardSaid : Prop := Claim7.holds Tryd.pinned (.plain (OpenSpec.upto dataBackSpec)) dataBackUptoCard

/-- THE SECOND FORM's CARD OF 'hustingslaw05.DataWhole'. -/
def dataWholeUptoCard : Claim7 := { stood := { row := dataWholeUptoRow, standIns := [], harness := (true, "56614159cacf6db49bffbb76ac655664a02d15cbe8582b4083deb3baf6d6b5ce"), looks := true }, kinds := [], alts := [], laidByText := true, laidKinds := [.handle], laidTests := true, laidLooks := .later }
def DataWholeUptoCardSaid : Prop := Claim7.holds Tryd.pinned (.plain (OpenSpec.upto dataWholeSpec)) dataWholeUptoCard

/-- THE SECOND FORM's CARD OF 'hustingslaw05.DataJust'. -/
def dataJustUptoCard : Claim7 := { stood := { row := dataJustUptoRow, standIns := [], harness := (true, "56614159cacf6db49bffbb76ac655664a02d15cbe8582b4083deb3baf6d6b5ce"), looks := true }, kinds := [], alts := [], laidByText := true, laidKinds := [.handle], laidTests := true, laidLooks := .later }
def DataJustUptoCardSaid : Prop := Claim7.holds Tryd.pinned (.plain (OpenSpec.upto dataJustSpec)) dataJustUptoCard

/-- THE SECOND FORM's CARD OF 'hustingslaw05.DataNames'. -/
def dataNamesUptoCard : Claim7 := { stood := { row := dataNamesUptoRow, standIns := [], harness := (true, "56614159cacf6db49bffbb76ac655664a02d15cbe8582b4083deb3baf6d6b5ce"), looks := true }, kinds := [], alts := [], laidByText := true, laidKinds := [.handle], laidTests := true, laidLooks := .later }
def DataNamesUptoCardSaid : Prop := Claim7.holds Tryd.pinned (.plain (OpenSpec.upto dataNamesSpec)) dataNamesUptoCard

/-- THE SECOND FORM's CARD OF 'hustingslaw05.DataTells'. -/
def dataTellsUptoCard : Claim7 := { stood := { row := dataTellsUptoRow, standIns := [], harness := (true, "56614159cacf6db49bffbb76ac655664a02d15cbe8582b4083deb3baf6d6b5ce"), looks := true }, kinds := [], alts := [], laidByText := true, laidKinds := [.handle], laidTests := true, laidLooks := .later }
def DataTellsUptoCardSaid : Prop := Claim7.holds Tryd.pinned (.plain (OpenSpec.upto dataTellsSpec)) dataTellsUptoCard

/-- THE SECOND FORM's CARD OF 'hustingslaw05.DataFolded'. -/
def dataFoldedUptoCard : Claim7 := { stood := { row := dataFoldedUptoRow, standIns := [], harness := (true, "56614159cacf6db49bffbb76ac655664a02d15cbe8582b4083deb3baf6d6b5ce"), looks := true }, kinds := [], alts := [], laidByText := true, laidKinds := [.handle], laidTests := true, laidLooks := .later }
def DataFoldedUptoCardSaid : Prop := Claim7.holds Tryd.pinned (.plain (OpenSpec.upto dataFoldedSpec)) dataFoldedUptoCard
end Rows
end Go.Proofs.YtijjfdmklbncbaaDoor
