/-
  DERIVED. GIVEN WITH THE SEED: THE CARDS: each row of YtcednhpelbdoiaaDoorRows.lean that lists a variable, with what it lists TIED to the program's text (the seventh form; the later family's looks); each row that meets fmt, with fmt's text TOLD by the authors' own Lean function (tested against real Go, not proved from fmt's source: count such statements apart). THE CARD IS WHAT COUNTS. Prove the row's statement (the work); the ties are given (YtcednhpelbdoiaaDoorTie.lean); close each card by the builder's one call (the guide's Derived/Test/ToyasCard.lean, 'card_holds'). Laid BY PROGRAM, IN A SANDBOX (cutbox-door.mjs). By AI agents, Wed Nov 11 2026. No macro, syntax, notation, axiom, sorry.
-/
import Derived.Test.YtcednhpelbdoiaaDoorRows
import GoSem.ClaimSeven
namespace Go.Proofs.YtcednhpelbdoiaaDoor
namespace Rows

/-- THE TIED CARD OF 'hustingslaw06.EdnsReads'. -/
def ednsReadsCard : Claim7 := { stood := { row := ednsReadsRow, standIns := [], harness := (true, "61f9b64f3ab761bdad5619f2f222449d768f6de931c4cd21b2681bfe1255fd63"), looks := true }, kinds := [], alts := [], laidByText := true, laidKinds := [.handle], laidTests := true, laidLooks := .later }
def EdnsReadsCardSaid : Prop := Claim7.holds Tryd.pinned (.plain (OpenSpec.ofChange ednsReadsSpec)) ednsReadsCard

/-- THE TIED CARD OF 'hustingslaw06.EdnsCodes'. -/
def ednsCodesCard : Claim7 := { stood := { row := ednsCodesRow, standIns := [], harness := (true, "61f9b64f3ab761bdad5619f2f222449d768f6de931c4cd21b2681bfe1255fd63"), looks := true }, kinds := [], alts := [], laidByText := true, laidKinds := [.handle], laidTests := true, laidLooks := .later }
def EdnsCodesCardSaid : Prop := Claim7.holds Tryd.pinned (.plain (OpenSpec.ofChange ednsCodesSpec)) ednsCodesCard

/-- THE TIED CARD OF 'hustingslaw06.EdnsNames'. -/
def ednsNamesCard : Claim7 := { stood := { row := ednsNamesRow, standIns := [], harness := (true, "61f9b64f3ab761bdad5619f2f222449d768f6de931c4cd21b2681bfe1255fd63"), looks := true }, kinds := [], alts := [], laidByText := true, laidKinds := [.handle], laidTests := true, laidLooks := .later }
def EdnsNamesCardSaid : Prop := Claim7.holds Tryd.pinned (.plain (OpenSpec.ofChange ednsNamesSpec)) ednsNamesCard

/-- THE TIED CARD OF 'hustingslaw06.EdnsBehind'. -/
def ednsBehindCard : Claim7 := { stood := { row := ednsBehindRow, standIns := [], harness := (true, "61f9b64f3ab761bdad5619f2f222449d768f6de931c4cd21b2681bfe1255fd63"), looks := true }, kinds := [], alts := [], laidByText := true, laidKinds := [.handle], laidTests := true, laidLooks := .later }
def EdnsBehindCardSaid : Prop := Claim7.holds Tryd.pinned (.plain (OpenSpec.ofChange ednsBehindSpec)) ednsBehindCard

/-- THE TIED CARD OF 'hustingslaw06.EdnsParts'. -/
def ednsPartsCard : Claim7 := { stood := { row := ednsPartsRow, standIns := [], harness := (true, "61f9b64f3ab761bdad5619f2f222449d768f6de931c4cd21b2681bfe1255fd63"), looks := true }, kinds := [], alts := [], laidByText := true, laidKinds := [.handle], laidTests := true, laidLooks := .later }
def EdnsPartsCardSaid : Prop := Claim7.holds Tryd.pinned (.plain (OpenSpec.ofChange ednsPartsSpec)) ednsPartsCard

/-- THE TIED CARD OF 'hustingslaw06.EdnsWrites'. -/
def ednsWritesCard : Claim7 := { stood := { row := ednsWritesRow, standIns := [], harness := (true, "61f9b64f3ab761bdad5619f2f222449d768f6de931c4cd21b2681bfe1255fd63"), looks := true }, kinds := [], alts := [], laidByText := true, laidKinds := [.handle], laidTests := true, laidLooks := .later }
def EdnsWritesCardSaid : Prop := Claim7.holds Tryd.pinned (.plain (OpenSpec.ofChange ednsWritesSpec)) ednsWritesCard

/-- THE TIED CARD OF 'hustingslaw06.EdnsBack'. -/
def ednsBackCard : Claim7 := { stood := { row := ednsBackRow, standIns := [], harness := (true, "61f9b64f3ab761bdad5619f2f222449d768f6de931c4cd21b2681bfe1255fd63"), looks := true }, kinds := [], alts := [], laidByText := true, laidKinds := [.handle], laidTests := true, laidLooks := .later }
def EdnsBackCardSaid : Prop := Claim7.holds Tryd.pinned (.plain (OpenSpec.ofChange ednsBackSpec)) ednsBackCard

/-- THE SECOND FORM's CARD OF 'hustingslaw06.EdnsReads'. -/
def ednsReadsUptoCard : Claim7 := { stood := { row := ednsReadsUptoRow, standIns := [], harness := (true, "61f9b64f3ab761bdad5619f2f222449d768f6de931c4cd21b2681bfe1255fd63"), looks := true }, kinds := [], alts := [], laidByText := true, laidKinds := [.handle], laidTests := true, laidLooks := .later }
def EdnsReadsUptoCardSaid : Prop := Claim7.holds Tryd.pinned (.plain (OpenSpec.upto ednsReadsSpec)) ednsReadsUptoCard

/-- THE SECOND FORM's CARD OF 'hustingslaw06.EdnsCodes'. -/
def ednsCodesUptoCard : Claim7 := { stood := { row := ednsCodesUptoRow, standIns := [], harness := (true, "61f9b64f3ab761bdad5619f2f222449d768f6de931c4cd21b2681bfe1255fd63"), looks := true }, kinds := [], alts := [], laidByText := true, laidKinds := [.handle], laidTests := true, laidLooks := .later }
def EdnsCodesUptoCardSaid : Prop := Claim7.holds Tryd.pinned (.plain (OpenSpec.upto ednsCodesSpec)) ednsCodesUptoCard

/-- THE SECOND FORM's CARD OF 'hustingslaw06.EdnsNames'. -/
def ednsNamesUptoCard : Claim7 := { stood := { row := ednsNamesUptoRow, standIns := [], harness := (true, "61f9b64f3ab761bdad5619f2f222449d768f6de931c4cd21b2681bfe1255fd63"), looks := true }, kinds := [], alts := [], laidByText := true, laidKinds := [.handle], laidTests := true, laidLooks := .later }
def EdnsNamesUptoCardSaid : Prop := Claim7.holds Tryd.pinned (.plain (OpenSpec.upto ednsNamesSpec)) ednsNamesUptoCard

/-- THE SECOND FORM's CARD OF 'hustingslaw06.EdnsBehind'. -/
def ednsBehindUptoCard : Claim7 := { stood := { row := ednsBehindUptoRow, standIns := [], harness := (true, "61f9b64f3ab761bdad5619f2f222449d768f6de931c4cd21b2681bfe1255fd63"), looks := true }, kinds := [], alts := [], laidByText := true, laidKinds := [.handle], laidTests := true, laidLooks := .later }
def EdnsBehindUptoCardSaid : Prop := Claim7.holds Tryd.pinned (.plain (OpenSpec.upto ednsBehindSpec)) ednsBehindUptoCard

/-- THE SECOND FORM's CARD OF 'hustingslaw06.EdnsParts'. -/
def ednsPartsUptoCard : Claim7 := { stood := { row := ednsPartsUptoRow, standIns := [], harness := (true, "61f9b64f3ab761bdad5619f2f222449d768f6de931c4cd21b2681bfe1255fd63"), looks := true }, kinds := [], alts := [], laidByText := true, laidKinds := [.handle], laidTests := true, laidLooks := .later }
def EdnsPartsUptoCardSaid : Prop := Claim7.holds Tryd.pinned (.plain (OpenSpec.upto ednsPartsSpec)) ednsPartsUptoCard

/-- THE SECOND FORM's CARD OF 'hustingslaw06.EdnsWrites'. -/
def ednsWritesUptoCard : Claim7 := { stood := { row := ednsWritesUptoRow, standIns := [], harness := (true, "61f9b64f3ab761bdad5619f2f222449d768f6de931c4cd21b2681bfe1255fd63"), looks := true }, kinds := [], alts := [], laidByText := true, laidKinds := [.handle], laidTests := true, laidLooks := .later }
def EdnsWritesUptoCardSaid : Prop := Claim7.holds Tryd.pinned (.plain (OpenSpec.upto ednsWritesSpec)) ednsWritesUptoCard

/-- THE SECOND FORM's CARD OF 'hustingslaw06.EdnsBack'. -/
def ednsBackUptoCard : Claim7 := { stood := { row := ednsBackUptoRow, standIns := [], harness := (true, "61f9b64f3ab761bdad5619f2f222449d768f6de931c4cd21b2681bfe1255fd63"), looks := true }, kinds := [], alts := [], laidByText := true, laidKinds := [.handle], laidTests := true, laidLooks := .later }
def EdnsBackUptoCardSaid : Prop := Claim7.holds Tryd.pinned (.plain (OpenSpec.upto ednsBackSpec)) ednsBackUptoCard
end Rows
end Go.Proofs.YtcednhpelbdoiaaDoor
