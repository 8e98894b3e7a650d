/-
  DERIVED. GIVEN WITH THE SEED: THE CARDS: each row of YtoncjhjnmomecaaDoorRows.lean that lists a variable, with what it lists TIED to the program's text (the seventh form; the later family's looks); each row that meets fmt, with fmt's text TOLD by the authors' own Lean function (tested against real Go, not proved from fmt's source: count such statements apart). THE CARD IS WHAT COUNTS. Prove the row's statement (the work); the ties are given (YtoncjhjnmomecaaDoorTie.lean); close each card by the builder's one call (the guide's Derived/Test/ToyasCard.lean, 'card_holds'). Laid BY PROGRAM, IN A SANDBOX (cutbox-door.mjs). By AI agents, Wed Nov 11 2026. No macro, syntax, notation, axiom, sorry.
-/
import Derived.Test.YtoncjhjnmomecaaDoorRows
import GoSem.ClaimSeven
namespace Go.Proofs.YtoncjhjnmomecaaDoor
namespace Rows

/-- THE TIED CARD OF 'hustingslaw25.IntakeRoom'. -/
def intakeRoomCard : Claim7 := { stood := { row := intakeRoomRow, standIns := [], harness := (true, "0f149829973d4ee8281b47387eff11bb732b2a4ac452c855e35cb0be394d067b"), looks := true }, kinds := [], alts := [], laidByText := true, laidKinds := [.handle, .data], laidTests := true, laidLooks := .later }
def IntakeRoomCardSaid : Prop := Claim7.holds Tryd.pinned (.plain (OpenSpec.ofChange intakeRoomSpec)) intakeRoomCard

/-- THE TIED CARD OF 'hustingslaw25.IntakeTells'. -/
def intakeTellsCard : Claim7 := { stood := { row := intakeTellsRow, standIns := [], harness := (true, "0f149829973d4ee8281b47387eff11bb732b2a4ac452c855e35cb0be394d067b"), looks := true }, kinds := [], alts := [], laidByText := true, laidKinds := [.handle, .data], laidTests := true, laidLooks := .later }
def IntakeTellsCardSaid : Prop := Claim7.holds Tryd.pinned (.plain (OpenSpec.ofChange intakeTellsSpec)) intakeTellsCard

/-- THE TIED CARD OF 'hustingslaw25.IntakeAlone'. -/
def intakeAloneCard : Claim7 := { stood := { row := intakeAloneRow, standIns := [], harness := (true, "0f149829973d4ee8281b47387eff11bb732b2a4ac452c855e35cb0be394d067b"), looks := true }, kinds := [], alts := [], laidByText := true, laidKinds := [.handle, .data], laidTests := true, laidLooks := .later }
def IntakeAloneCardSaid : Prop := Claim7.holds Tryd.pinned (.plain (OpenSpec.ofChange intakeAloneSpec)) intakeAloneCard

/-- THE TIED CARD OF 'hustingslaw25.IntakeOut'. -/
def intakeOutCard : Claim7 := { stood := { row := intakeOutRow, standIns := [], harness := (true, "0f149829973d4ee8281b47387eff11bb732b2a4ac452c855e35cb0be394d067b"), looks := true }, kinds := [], alts := [], laidByText := true, laidKinds := [.handle, .data], laidTests := true, laidLooks := .later }
def IntakeOutCardSaid : Prop := Claim7.holds Tryd.pinned (.plain (OpenSpec.ofChange intakeOutSpec)) intakeOutCard

/-- THE SECOND FORM's CARD OF 'hustingslaw25.IntakeRoom'. -/
def intakeRoomUptoCard : Claim7 := { stood := { row := intakeRoomUptoRow, standIns := [], harness := (true, "0f149829973d4ee8281b47387eff11bb732b2a4ac452c855e35cb0be394d067b"), looks := true }, kinds := [], alts := [], laidByText := true, laidKinds := [.handle, .data], laidTests := true, laidLooks := .later }
def IntakeRoomUptoCardSaid : Prop := Claim7.holds Tryd.pinned (.plain (OpenSpec.upto intakeRoomSpec)) intakeRoomUptoCard

/-- THE SECOND FORM's CARD OF 'hustingslaw25.IntakeTells'. -/
def intakeTellsUptoCard : Claim7 := { stood := { row := intakeTellsUptoRow, standIns := [], harness := (true, "0f149829973d4ee8281b47387eff11bb732b2a4ac452c855e35cb0be394d067b"), looks := true }, kinds := [], alts := [], laidByText := true, laidKinds := [.handle, .data], laidTests := true, laidLooks := .later }
def IntakeTellsUptoCardSaid : Prop := Claim7.holds Tryd.pinned (.plain (OpenSpec.upto intakeTellsSpec)) intakeTellsUptoCard

/-- THE SECOND FORM's CARD OF 'hustingslaw25.IntakeAlone'. -/
def intakeAloneUptoCard : Claim7 := { stood := { row := intakeAloneUptoRow, standIns := [], harness := (true, "0f149829973d4ee8281b47387eff11bb732b2a4ac452c855e35cb0be394d067b"), looks := true }, kinds := [], alts := [], laidByText := true, laidKinds := [.handle, .data], laidTests := true, laidLooks := .later }
def IntakeAloneUptoCardSaid : Prop := Claim7.holds Tryd.pinned (.plain (OpenSpec.upto intakeAloneSpec)) intakeAloneUptoCard

/-- THE SECOND FORM's CARD OF 'hustingslaw25.IntakeOut'. -/
def intakeOutUptoCard : Claim7 := { stood := { row := intakeOutUptoRow, standIns := [], harness := (true, "0f149829973d4ee8281b47387eff11bb732b2a4ac452c855e35cb0be394d067b"), looks := true }, kinds := [], alts := [], laidByText := true, laidKinds := [.handle, .data], laidTests := true, laidLooks := .later }
def IntakeOutUptoCardSaid : Prop := Claim7.holds Tryd.pinned (.plain (OpenSpec.upto intakeOutSpec)) intakeOutUptoCard
end Rows
end Go.Proofs.YtoncjhjnmomecaaDoor
