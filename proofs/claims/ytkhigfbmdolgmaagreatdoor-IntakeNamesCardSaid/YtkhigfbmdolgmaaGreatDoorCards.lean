/-
  DERIVED. GIVEN WITH THE SEED: THE CARDS: each row of YtkhigfbmdolgmaaGreatDoorRows.lean that lists a variable, with what it lists TIED to the program's text (the seventh form; the later family's looks); each row that meets fmt, with fmt's text TOLD by the authors' own Lean function (tested against real Go, not proved from fmt's source: count such statements apart). THE CARD IS WHAT COUNTS. Prove the row's statement (the work); the ties are given (YtkhigfbmdolgmaaGreatDoorTie.lean); close each card by the builder's one call (the guide's Derived/Test/ToyasCard.lean, 'card_holds'). Laid BY PROGRAM, IN A SANDBOX (cutbox-door.mjs). By AI agents, Wed Nov 11 2026. No macro, syntax, notation, axiom, sorry.
-/
import Derived.Test.YtkhigfbmdolgmaaGreatDoorRows
import GoSem.ClaimSeven
namespace Go.Proofs.YtkhigfbmdolgmaaGreatDoor
namespace Rows

/-- THE TIED CARD OF 'hustingslaw25.IntakeNames'. -/
def intakeNamesCard : Claim7 := { stood := { row := intakeNamesRow, standIns := [], harness := (true, "ce8bccb1e12cdca36bf62bd7a1d3258f5535e9397e5b3bfdb4ec13adf84089c0"), looks := true }, kinds := [], alts := [], laidByText := true, laidKinds := [.handle, .data], laidTests := true, laidLooks := .later }
def IntakeNamesCardSaid : Prop := Claim7.holds Tryz.pinned (.plain (OpenSpec.ofChange intakeNamesSpec)) intakeNamesCard

/-- THE SECOND FORM's CARD OF 'hustingslaw25.IntakeNames'. -/
def intakeNamesUptoCard : Claim7 := { stood := { row := intakeNamesUptoRow, standIns := [], harness := (true, "ce8bccb1e12cdca36bf62bd7a1d3258f5535e9397e5b3bfdb4ec13adf84089c0"), looks := true }, kinds := [], alts := [], laidByText := true, laidKinds := [.handle, .data], laidTests := true, laidLooks := .later }
def IntakeNamesUptoCardSaid : Prop := Claim7.holds Tryz.pinned (.plain (OpenSpec.upto intakeNamesSpec)) intakeNamesUptoCard
end Rows
end Go.Proofs.YtkhigfbmdolgmaaGreatDoor
